import Derived.Test.YtfnhjdehlikbaaaGreatDoorM9
import Derived.Test.YtfnhjdehlikbaaaGreatDoorM4
import Derived.Test.YtfnhjdehlikbaaaGreatDoorM8
import Derived.Test.YtfnhjdehlikbaaaGreatDoorM7
set_option linter.unusedVariables false
set_option linter.unusedSimpArgs false
/- The lines of a text: joined they are the text. -/
namespace Go.Proofs.YtfnhjdehlikbaaaGreatDoor.Lx
open Go.Proofs.YtfnhjdehlikbaaaGreatDoorW.PrintWords

/-- Bytes cut at each line's end. -/
def splitN : List UInt8 → List (List UInt8)
  | [] => [[]]
  | b :: l => if b = 10 then [] :: splitN l else match splitN l with | [] => [] | h :: t => (b :: h) :: t
theorem splitN_ne : ∀ l, ∃ h t, splitN l = h :: t := by
  intro l
  induction l with
  | nil => exact ⟨[], [], rfl⟩
  | cons b l ih =>
    obtain ⟨h, t, e⟩ := ih
    simp only [splitN, e]
    split
    · exact ⟨_, _, rfl⟩
    · exact ⟨_, _, rfl⟩
theorem split_eq : ∀ l : List UInt8, Lib.splitK [10] 0 (Lib.count l [10]) l = splitN l := by
  intro l
  induction l with
  | nil => rw [Lib.count_miss (by simp [Lib.index])]; rfl
  | cons b l ih =>
    by_cases hb : b = 10
    · subst hb
      have hix : Lib.index (10 :: l) [10] = ((0 : Nat) : Int) := by rw [Lib.index]; simp [List.isPrefixOf]
      rw [Lib.count_cons_eq, Nat.add_comm, Lib.splitK, hix]
      simp only [splitN, if_true]
      rw [← ih]
      simp
    · have hp : ([10] : List UInt8).isPrefixOf (b :: l) = false := by simp [List.isPrefixOf, Ne.symm hb]
      have hix : Lib.index (b :: l) [10] = if Lib.index l [10] == -1 then -1 else Lib.index l [10] + 1 := by rw [Lib.index, hp]; simp
      rw [Lib.count_cons_ne b 10 l hb]
      simp only [splitN, if_neg hb]
      by_cases hm : Lib.index l [10] = -1
      · rw [Lib.count_miss hm] at ih ⊢
        rw [← ih]
        simp [Lib.splitK]
      · have hge := Lib.index_ge l [10]
        obtain ⟨j, hj⟩ : ∃ j : Nat, Lib.index l [10] = j := ⟨(Lib.index l [10]).toNat, by omega⟩
        rw [if_neg (by simp; omega), hj] at hix
        rw [Lib.count_hit (by simp) hj] at ih ⊢
        rw [Nat.add_comm, Lib.splitK, hj] at ih
        rw [Nat.add_comm, Lib.splitK, hix]
        rw [if_neg (by simp)] at ih
        rw [if_neg (by simp; omega)]
        have e1 : ((j : Int) + 1).toNat = j + 1 := by omega
        have e2 : ((j : Int)).toNat = j := by omega
        rw [e1]
        rw [e2] at ih
        rw [← ih]
        simp [List.take_succ_cons]
theorem joinN_split : ∀ l, joinN (splitN l) = l := by
  intro l
  induction l with
  | nil => rw [splitN, joinN_one]
  | cons b l ih =>
    obtain ⟨h, t, e⟩ := splitN_ne l
    simp only [splitN]
    split
    · rename_i hb
      rw [joinN_cons _ _ (by rw [e]; simp), ih, hb]
      rfl
    · rw [e] at ih ⊢
      simp only
      cases t with
      | nil => rw [joinN_one] at ih ⊢; rw [ih]
      | cons y r =>
        rw [joinN_cons _ _ (by simp)] at ih ⊢
        rw [← ih]
        rfl
theorem noNl_split : ∀ l, ∀ x ∈ splitN l, NoNl x := by
  intro l
  induction l with
  | nil => intro x hx; simp [splitN] at hx; subst hx; intro h; cases h
  | cons b l ih =>
    obtain ⟨h, t, e⟩ := splitN_ne l
    intro x hx
    simp only [splitN] at hx
    split at hx
    · rcases List.mem_cons.1 hx with rfl | hx
      · intro h; cases h
      · exact ih x hx
    · rename_i hb
      rw [e] at hx ih
      simp only at hx
      rcases List.mem_cons.1 hx with rfl | hx
      · intro h2
        rcases List.mem_cons.1 h2 with h3 | h3
        · exact hb h3.symm
        · exact ih h (by simp) h3
      · exact ih x (by simp [hx])
/-- The lines' bytes. -/
def lineB (s : ByteArray) : List (List UInt8) := (linesF s).map (·.data.toList)
theorem lineB_eq (s : ByteArray) : lineB s = splitN s.data.toList := by
  rw [← split_eq]
  exact Lib.splitB_data ⟨#[10]⟩ 0 (Lib.countB s ⟨#[10]⟩) s
theorem lineB_join (s : ByteArray) : s.data.toList = joinN (lineB s) := by rw [lineB_eq, joinN_split]
theorem lineB_noNl (s : ByteArray) : ∀ x ∈ lineB s, NoNl x := by rw [lineB_eq]; exact noNl_split _
theorem lineB_ne (s : ByteArray) : lineB s ≠ [] := by
  obtain ⟨h, t, e⟩ := splitN_ne s.data.toList
  rw [lineB_eq, e]
  simp

/-- How long lines are, each with its end. -/
def tot (xs : List (List UInt8)) : Nat := (xs.map (fun x => x.length + 1)).sum
theorem tot_snoc (xs : List (List UInt8)) (x : List UInt8) : tot (xs ++ [x]) = tot xs + (x.length + 1) := by simp [tot]
theorem tot_join : ∀ xs : List (List UInt8), xs ≠ [] → tot xs = (joinN xs).length + 1 := by
  intro xs
  induction xs with
  | nil => intro h; exact absurd rfl h
  | cons x xs ih =>
    intro _
    cases xs with
    | nil => rw [joinN_one]; simp [tot]
    | cons y r =>
      rw [joinN_cons _ _ (by simp), List.length_append, List.length_cons]
      have := ih (by simp)
      have e : tot (x :: y :: r) = x.length + 1 + tot (y :: r) := by simp [tot]
      omega
theorem tot_take (xs : List (List UInt8)) (i : Nat) (x : List UInt8) (h : xs[i]? = some x) : tot (xs.take (i + 1)) = tot (xs.take i) + (x.length + 1) := by
  rw [List.take_add_one, h]
  exact tot_snoc _ _
theorem len_tot (xs : List (List UInt8)) : xs.length ≤ tot xs := by
  induction xs with
  | nil => simp [tot]
  | cons x xs ih =>
    have e : tot (x :: xs) = x.length + 1 + tot xs := by simp [tot]
    rw [List.length_cons]
    omega

/-- Lines so far, and what they became. -/
structure SoFar (k : Nat) (xs ys : List (List UInt8)) : Prop where
  ext : ∀ xs2 ys2, Moved k xs2 ys2 → Moved k (xs ++ xs2) (ys ++ ys2)
  all : xs ≠ [] → Moved k xs ys
  size : tot ys ≤ tot xs + 22 * xs.length
theorem SoFar.nil (k : Nat) : SoFar k [] [] := ⟨fun _ _ h => h, fun h => absurd rfl h, by simp [tot]⟩
theorem SoFar.line {k : Nat} {xs ys : List (List UInt8)} {x x' : List UInt8} (h : SoFar k xs ys) (hm : MLine k x x') (hl : x'.length ≤ x.length + 13) : SoFar k (xs ++ [x]) (ys ++ [x']) :=
  ⟨fun xs2 ys2 h2 => by rw [List.append_assoc, List.append_assoc]; exact h.ext _ _ (.line hm h2), fun _ => h.ext _ _ (.one hm), by rw [tot_snoc, tot_snoc, List.length_append]; have := h.size; simp; omega⟩
theorem SoFar.two {k : Nat} {xs ys : List (List UInt8)} {x x' y : List UInt8} (h : SoFar k xs ys) (hb : MBlank y) (hy : y.length ≤ 8) (hm : MLine k x x') (hl : x'.length ≤ x.length + 13) : SoFar k (xs ++ [x]) ((ys ++ [y]) ++ [x']) :=
  ⟨fun xs2 ys2 h2 => by rw [List.append_assoc, List.append_assoc, List.append_assoc]; exact h.ext _ _ (.put hb (.line hm h2)), fun _ => by rw [List.append_assoc]; exact h.ext _ _ (.put hb (.one hm)), by rw [tot_snoc, tot_snoc, tot_snoc, List.length_append]; have := h.size; simp; omega⟩

end Go.Proofs.YtfnhjdehlikbaaaGreatDoor.Lx

/- LexMoves (7): what the walk holds on its way. -/
namespace Go.Proofs.YtfnhjdehlikbaaaGreatDoor.Lx
open Go.RowKit Go.Proofs.YtfnhjdehlikbaaaGreatDoorW.PrintWords

/-- The lines of the text, those that came of them, and the store. -/
structure MvAt (B g b M m : Nat) (ls zs : List ByteArray) (v : Value) (w W : World) : Prop where
  store : StoreAt B b M W
  src : W.heap[g]? = some (.cells (ls.map Value.string).toArray 9)
  low : g < B
  own : W.ownsRow B 9 1 v m (zs.map Value.string)
  len : zs.length = m
  below : Below w.heap.size w W
  size : B ≤ W.heap.size
  far : w.heap.size ≤ b ∧ g ≠ b ∧ w.heap.size ≤ B

section
variable {B g b M M' m : Nat} {ls zs : List ByteArray} {v v' : Value} {w W W' : World} {z : ByteArray}
theorem MvAt.drawn (h : MvAt B g b M m ls zs v w W) (hs : StoreAt B b M' W') (hk : Keep (· = b) W W') : MvAt B g b M' m ls zs v w W' :=
  ⟨hs, (hk.block g (heap_lt h.src) h.far.2.1).trans h.src, h.low, own_move h.own (fun k hk2 => hk.block k (own_lt h.own k hk2) (fun e => by have := own_base h.own k hk2; have := h.store.low; omega)), h.len, below_keep h.below hk h.far.1 h.below.size, Nat.le_trans h.size hk.size, h.far⟩
theorem MvAt.step (h : MvAt B g b M m ls zs v w W) (hb : Below W.heap.size W W') : MvAt B g b M m ls zs v w W' :=
  ⟨h.store.below (hb.mono h.size), (hb.block _ (heap_lt h.src)).trans h.src, h.low, own_move h.own (fun k hk => hb.block k (own_lt h.own k hk)), h.len, h.below.trans (hb.mono h.below.size), Nat.le_trans h.size hb.size, h.far⟩
theorem MvAt.alloc (h : MvAt B g b M m ls zs v w W) (o : Obj) : MvAt B g b M m ls zs v w (W.alloc o) := h.step ((Below.refl _ W).alloc (Nat.le_refl _) o)
theorem MvAt.put (h : MvAt B g b M m ls zs v w W) (hG : W.grownBy W' v.ownBlock) (hO : W'.ownsRow B 9 1 v' (m + 1) (zs.map Value.string ++ [.string z])) : MvAt B g b M (m + 1) ls (zs ++ [z]) v' w W' := by
  have hB : Below B W W' := (Below.refl B W).grown hG h.size (fun k hk => own_base h.own k hk)
  exact ⟨h.store.below hB, (hB.block _ h.low).trans h.src, h.low, by rw [List.map_append]; exact hO, by rw [List.length_append, h.len]; rfl, h.below.grown hG h.below.size (fun k hk => Nat.le_trans h.far.2.2 (own_base h.own k hk)), Nat.le_trans h.size hG.size, h.far⟩
end

/-- What is said of four texts is said of each. -/
theorem tab4_says {W : World} {t v : Nat} {a b c d : ByteArray} {f : Nat × Nat} (P : ByteArray → Prop) (h : W.heap[t]? = some (.cells #[.string a, .string b, .string c, .string d] 9 f)) (hv : v < 4) (ha : P a) (hb : P b) (hc : P c) (hd : P d) :
    ∃ s : ByteArray, W.cell? ⟨t, v, none⟩ = some (.string s) ∧ P s := by
  have hc0 := fun i => cell_of h i
  rcases v with _ | _ | _ | _ | v
  · exact ⟨a, hc0 0, ha⟩
  · exact ⟨b, hc0 1, hb⟩
  · exact ⟨c, hc0 2, hc⟩
  · exact ⟨d, hc0 3, hd⟩
  · omega
theorem reps2_any (c : Nat) (w : World) (hc : c ≤ 100) : Calls Tryz.prog 26 #[.string ⟨#[32]⟩, .int .i64 (c : Int)] w fun e w' => ∃ s : ByteArray, e = .returned (.string s) ∧ s.data.toList = List.replicate c 32 ∧ s.size = c ∧ Below w.heap.size w w' :=
  (repeat_any ⟨#[32]⟩ c w (by omega) (by show 1 * c ≤ _; omega)).mono fun e w' ⟨he, hb⟩ => ⟨_, he, by
    have := Lib.repeatL_replicate 32 1 c
    rw [Nat.mul_one] at this
    simpa using this, by
    show (Lib.repeatL [32] c).toArray.size = c
    rw [List.size_toArray, Lib.repeatL_length]
    simp, hb⟩

/-- A line without tokens, short. -/
def BlankS (s : ByteArray) : Prop := MBlank s.data.toList ∧ s.size ≤ 8
theorem noNl_letters {s : ByteArray} (h : Letters s) : NoNl s.data.toList := fun e => by have := h 10 e; simp at this
theorem blank0 : BlankS ⟨#[]⟩ := ⟨⟨0, .inl rfl⟩, by decide⟩
theorem blank3 : BlankS ⟨#[32, 32, 32]⟩ := ⟨⟨3, .inl rfl⟩, by decide⟩
theorem blankN {nm : ByteArray} (h : Letters nm) (hz : nm.size ≤ 4) : BlankS (⟨#[45, 45, 32]⟩ ++ nm) := by
  refine ⟨⟨0, .inr ⟨32 :: nm.data.toList, ?_, ?_⟩⟩, ?_⟩
  · intro e
    rcases List.mem_cons.1 e with e | e
    · exact absurd e (by decide)
    · exact noNl_letters h e
  · rw [ByteArray.data_append, Array.toList_append]
    rfl
  · rw [ByteArray.size_append]
    show 3 + _ ≤ _
    omega
theorem blankR {rs : ByteArray} {c : Nat} (h : rs.data.toList = List.replicate c 32) (hz : rs.size = c) (hc : c ≤ 5) : BlankS (rs ++ ⟨#[45, 45]⟩) := by
  refine ⟨⟨c, .inr ⟨[], (by intro e; cases e), ?_⟩⟩, ?_⟩
  · rw [ByteArray.data_append, Array.toList_append, h]
  · rw [ByteArray.size_append, hz]
    show _ + 2 ≤ _
    omega
theorem line0 {rs x : ByteArray} {k : Nat} (h : rs.data.toList = List.replicate k 32) : MLine k x.data.toList (rs ++ x).data.toList := by
  left
  rw [ByteArray.data_append, Array.toList_append, h]
theorem line1 {rs x nm : ByteArray} {k : Nat} (h : rs.data.toList = List.replicate k 32) (hn : Letters nm) : MLine k x.data.toList ((rs ++ x) ++ (⟨#[32, 45, 45, 32]⟩ ++ nm)).data.toList := by
  right
  refine ⟨nm.data.toList, noNl_letters hn, ?_⟩
  rw [ByteArray.data_append, Array.toList_append, ByteArray.data_append, Array.toList_append, ByteArray.data_append, Array.toList_append, h, List.append_assoc]
  rfl

theorem join10_at (xs : List ByteArray) (bk c : Nat) (w : World) (hcells : ∀ (j : Nat) x, xs[j]? = some x → w.cell? ⟨bk, j, none⟩ = some (.string x))
    (hbk : bk < w.heap.size) (hN : xs.length ≤ 140737488355328) (hcap : xs.length ≤ c) (hlen : (joinN (xs.map (·.data.toList))).length ≤ 140737488355328) :
    Calls Tryz.prog 18 #[.slice (some ⟨bk, 0, none⟩) xs.length c, .string ⟨#[10]⟩] w fun e w' => e = .returned (.string (bytes (joinN (xs.map (·.data.toList))))) ∧ Below w.heap.size w w' :=
  Any.strings_Join Tryz.laysJoin Tryz.joinExtra bk 0 c xs ⟨#[10]⟩ w (fun j x h => by rw [Nat.zero_add]; exact hcells j x h) hbk hN hcap hlen

end Go.Proofs.YtfnhjdehlikbaaaGreatDoor.Lx

/- LexMoves (7): the walk. -/
namespace Go.Proofs.YtfnhjdehlikbaaaGreatDoor.Lx
open Go.RowKit Go.Proofs.YtfnhjdehlikbaaaGreatDoorW.PrintWords

theorem raw_says2 (s : ByteArray) (hs : s.size ≤ 100000) : Aside0 (∀ W, Calls Tryz.prog 22 #[.string s] W fun e w' => ∃ v, e = .returned (.tuple #[v, .int .i64 (rawF s).2.1, .int .i64 (rawF s).2.2]) ∧ Below W.heap.size W w') :=
  ⟨fun W => (rawF_any s W (by omega)).mono fun e w' ⟨v, he, _, hb⟩ => ⟨v, he, hb⟩⟩
theorem tok_says2 (s : ByteArray) (hs : s.size ≤ 100000) : Aside0 (∀ W, Pow W → Calls Tryz.prog 19 #[.string s] W fun e w' => ∃ A c, e = .returned (.tuple #[.slice A (tokF s).1.length c, .int .i64 (tokF s).2.1, .int .i64 (tokF s).2.2]) ∧ (tokF s).1.length ≤ c ∧ SrcC A (tokF s).1 w' ∧ Below W.heap.size W w') :=
  ⟨fun W hp => (tokens_any s W (by omega) hp (rawOk_all s)).mono fun e w' ⟨v, he, hr, hb⟩ => by
    obtain ⟨A, c, rfl, hc, hs⟩ := srcC_reads hr
    exact ⟨A, c, he, hc, hs, hb⟩⟩
theorem tokLen (s : ByteArray) : (tokF s).1.length ≤ 100000 := by
  have h1 : ∀ l : List Tok, (layF l).1.length ≤ 6 + 4 * l.length := fun l => by
    have h : ∀ (f i : Nat) (op : Bool) (st : List Lev) (out : List Tok), (layG l f i op st out).1.2.length + (layG l f i op st out).1.1.length ≤ out.length + st.length + 4 * f := by
      intro f
      induction f with
      | zero => intro i op st out; exact Nat.le_refl _
      | succ f ih =>
        intro i op st out
        by_cases hlt : i < l.length
        · rw [layG_step (List.getElem?_eq_getElem hlt)]
          have h1 := oneF_len l[i] (nxT l i) (bgT l i op l[i]) (decide (i + 1 < l.length)) st out
          split
          · exact Nat.le_trans (ih _ _ _ _) (by omega)
          · simp only
            omega
        · rw [layG_end hlt]
          simp only
          omega
    rw [layF_fin]
    unfold finL
    have h := h (l.length + 1) 0 true [⟨true, (l[0]?.getD (endT l)).col, ⟨#[]⟩⟩] [markF 5 (l[0]?.getD (endT l))]
    generalize layG l (l.length + 1) 0 true [⟨true, (l[0]?.getD (endT l)).col, ⟨#[]⟩⟩] [markF 5 (l[0]?.getD (endT l))] = R at h
    simp only [List.length_singleton] at h
    split
    · split
      · simp only
        have := shutF_len anyL (endT l) R.1.1 R.1.2
        omega
      · simp
    · simp
  have h2 := (rawOk_all s).2
  have h3 := h1 (rawF s).1
  unfold tokF
  split
  · simp
  · split
    · simp only
      omega
    · split
      · simp
      · simp

theorem addr_add (g k : Nat) : (⟨g, 0, none⟩ : Addr).add k = ⟨g, k, none⟩ := by unfold Addr.add; split <;> simp_all
theorem mem_tot : ∀ (xs : List (List UInt8)) (x : List UInt8), x ∈ xs → x.length + 1 ≤ tot xs := by
  intro xs
  induction xs with
  | nil => intro x h; cases h
  | cons y xs ih =>
    intro x h
    have e : tot (y :: xs) = y.length + 1 + tot xs := by simp [tot]
    rcases List.mem_cons.1 h with rfl | h
    · omega
    · have := ih x h
      omega

set_option maxRecDepth 100000 in
set_option maxHeartbeats 16000000 in
theorem lawMoves_any (A0 A1 : Option Addr) (n0 c0 n1 c1 : Nat) (by_ : Int) (w : World) (h0 : BytesAt A0 n0 c0 w) (h1 : BytesAt A1 n1 c1 w) (hb0 : 0 ≤ by_) (hb1 : by_ < 256) (ht : Pow w) :
    Calls Tryz.prog 7 #[.slice A0 n0 c0, .slice A1 n1 c1, .int .u8 by_] w fun e w' => e = .returned (.bool true) ∧ Below w.heap.size w w' := by
  have HT := Aside0.mk ht
  have HO1 := Aside0.mk (of_any A0 n0 c0 w h0)
  have HB1 := Aside0.mk h1
  have HOF := Aside0.mk (fun W (h : BytesAt A1 n1 c1 W) => of_any A1 n1 c1 W h)
  have HWR := Aside0.mk (fun b W (h : StoreAt W.heap.size b 0 W) => written_any b 0 60 W h (by omega) (by omega) (by omega))
  have HAW := Aside0.mk (fun W (hp : Pow W) => awake_any W hp)
  clear ht h0 h1
  go_enter Tryz.func7, Tryz.ntmps7
  go_upto_region 2 with (first | (go_at_call 15; (with_reducible refine HO1.out.mono ?_); rintro e w1 ⟨b1, rfl, hb1, hs1, hw1⟩; have HX1 := Aside0.mk hs1; have HW1 := Aside0.mk hw1; have HG1 := Aside0.mk hb1; clear hb1 hs1 hw1) | (go_at_call 15; (with_reducible refine (HOF.out _ (HB1.out.below HW2.out)).mono ?_); rintro e w3 ⟨b3, rfl, hb3, hs3, hw3⟩; have HX3 := Aside0.mk hs3; have HG3 := Aside0.mk (Nat.le_trans HW2.out.size hb3); have HW3 := Aside0.mk (HW2.out.trans (hw3.mono HW2.out.size)); clear hb3 hs3 hw3) | (go_at_call 21; (with_reducible refine (HWR.out _ _ HX1.out).mono ?_); rintro e w2 ⟨s, rfl, hs, _, hk⟩; have HW2 := Aside0.mk (below_keep HW1.out hk HG1.out HW1.out.size); clear hk))
  clear HO1 HOF HWR HB1 HX1 HW1 HG1
  have HR1 := raw_says2 s (by omega)
  obtain ⟨P, hP⟩ : ∃ P, rawF s = P := ⟨_, rfl⟩
  rw [hP] at HR1
  have HP := Aside0.mk hP
  clear hP
  obtain ⟨l0, at0, e0⟩ := P
  simp only at HR1
  by_cases he : e0 = 0
  · subst he
    have HSP := Aside0.mk (fun W => split_nl s (by omega) W)
    have hl1 := lineB_ne s
    have hl2 := tot_join _ hl1
    rw [← lineB_join, len_data] at hl2
    have hl3 := len_tot (lineB s)
    obtain ⟨ls, hls⟩ : ∃ ls, linesF s = ls := ⟨_, rfl⟩
    have hlb : lineB s = ls.map (·.data.toList) := by unfold lineB; rw [hls]
    rw [hls] at HSP
    rw [hlb, List.length_map] at hl3
    rw [hlb] at hl1 hl2
    have HLB := Aside0.mk hlb
    obtain ⟨N, hN⟩ : ∃ N, ls.length = N := ⟨_, rfl⟩
    have hN2 : N ≤ 2401 := by omega
    have hN1 : 1 ≤ N := by
      rcases Nat.eq_zero_or_pos N with h | h
      · rw [h] at hN
        rw [List.eq_nil_of_length_eq_zero hN] at hl1
        exact absurd rfl hl1
      · exact h
    have HN := Aside0.mk hN
    have HTO : Aside0 (tot (ls.map (·.data.toList)) = s.size + 1) := ⟨hl2⟩
    rw [hN] at HSP
    clear hlb hl1 hl2 hl3 hls hN
    have HSZ := Aside0.mk hs
    go_wp2_with (first | (go_at_call 22; (with_reducible refine (HR1.out _).mono ?_); rintro e w5 ⟨v5, rfl, hb5⟩; have HW5 := Aside0.mk (HW3.out.trans (hb5.mono HW3.out.size)); have HX5 := Aside0.mk (HX3.out.below hb5); have HX35 := Aside0.mk hb5.size; clear hb5) | (go_at_call 23; (with_reducible refine (HSP.out _).mono ?_); rintro e w6 ⟨rfl, rfl⟩))
    obtain ⟨i0, hi, hz0, hz1, hz2⟩ := info_parts info9
    have HI := Aside0.mk hi; clear hi
    have HZ0 := Aside0.mk hz0; clear hz0
    have HZ1 := Aside0.mk hz1; clear hz1
    have HZ2 := Aside0.mk hz2; clear hz2
    obtain ⟨k, hk, hk5⟩ : ∃ k : Nat, Int.tmod by_ 6 = (k : Int) ∧ k ≤ 5 := ⟨(by_ % 6).toNat, by rw [Int.tmod_eq_emod_of_nonneg hb0]; omega, by omega⟩
    have HSE := Aside0.mk (fun (M : Nat) (m : Int) W (hs : StoreAt (w5.heap.size + 1) b3 M W) (hM : M ≤ 1000000) (h0 : 0 < m) (h1 : m ≤ 16777216) => seldom_any (w5.heap.size + 1) b3 M m W hs (by omega) h0 h1)
    have HL := Aside0.mk (fun (M : Nat) (m : Int) W (hs : StoreAt (w5.heap.size + 1) b3 M W) (hM : M ≤ 1000000) (h0 : 0 < m) (h1 : m ≤ 16777216) => less_any (w5.heap.size + 1) b3 M m W hs (by omega) h0 h1)
    have HNA := Aside0.mk (fun (M : Nat) W (hs : StoreAt (w5.heap.size + 1) b3 M W) (hM : M ≤ 1000000) => name_any (w5.heap.size + 1) b3 M W hs (by omega))
    have HRP := Aside0.mk reps2_any
    have HM0 : Aside0 (MvAt (w5.heap.size + 1) w5.heap.size b3 0 0 ls [] (.slice none 0 0) w (w5.alloc (.cells (ls.map Value.string).toArray 9))) := ⟨⟨(HX5.out.below ((Below.refl _ w5).alloc HX35.out _)).up (Nat.le_succ_of_le HX35.out), heap_new w5 _, Nat.lt_succ_self _, World.ownsRow_nil _ _ _ _, rfl, HW5.out.alloc HW5.out.size _, by simp, HG3.out, by have := HX5.out.low; have := HX35.out; omega, Nat.le_succ_of_le HW5.out.size⟩⟩
    clear HX3 HX5
    go_loopg [38, 12] N (fun f t38 t12 wr => ∃ (i m M : Nat) (O : Option Addr) (c : Nat) (zs : List ByteArray), t38 = .int .i64 (i : Int) ∧ t12 = .slice O m c ∧ i + f = N ∧ m ≤ 2 * i ∧ M ≤ 20 * i ∧ Aside0 (MvAt (w5.heap.size + 1) w5.heap.size b3 M m ls zs (.slice O m c) w wr ∧ SoFar k ((ls.take i).map (·.data.toList)) (zs.map (·.data.toList))))
    case atStart => exact ⟨0, 0, 0, none, 0, [], rfl, rfl, by omega, by omega, by omega, ⟨HM0.out, SoFar.nil k⟩⟩
    case round =>
      clear HM0
      obtain ⟨i, m, M, O, c, zs, rfl, rfl, hif, hmi, hMi, hA⟩ := hrel
      have HM := Aside0.mk hA.out.1
      have HSF := Aside0.mk hA.out.2
      clear hA
      by_cases hi : i < N
      · obtain ⟨f, rfl⟩ : ∃ f, gk = f + 1 := ⟨gk - 1, by omega⟩
        have hlt : i < ls.length := by rw [HN.out]; exact hi
        have hti := List.getElem?_eq_getElem hlt
        have hcell : wr.cell? ⟨w5.heap.size, i, none⟩ = some (.string ls[i]) := by
          rw [cell_of HM.out.src]
          simp [hlt]
        have hxz : ls[i].size ≤ 2400 := by
          have h1 := mem_tot (ls.map (·.data.toList)) ls[i].data.toList (List.mem_map.2 ⟨_, List.getElem_mem hlt, rfl⟩)
          rw [HTO.out, len_data] at h1
          have := HSZ.out
          omega
        have hxs : (ls.take (i + 1)).map (·.data.toList) = (ls.take i).map (·.data.toList) ++ [ls[i].data.toList] := by rw [List.take_succ_eq_append_getElem hlt, List.map_append]; rfl
        generalize ls[i] = x at hcell hxz hxs
        have HS1 : Aside0 (∀ z : ByteArray, MLine k x.data.toList z.data.toList → z.size ≤ x.size + 13 → SoFar k ((ls.take (i + 1)).map (·.data.toList)) ((zs ++ [z]).map (·.data.toList))) := ⟨fun z hm hz => by
          rw [hxs, List.map_append]
          exact HSF.out.line hm (by rw [len_data, len_data]; exact hz)⟩
        have HS2 : Aside0 (∀ y z : ByteArray, BlankS y → MLine k x.data.toList z.data.toList → z.size ≤ x.size + 13 → SoFar k ((ls.take (i + 1)).map (·.data.toList)) (((zs ++ [y]) ++ [z]).map (·.data.toList))) := ⟨fun y z hb hm hz => by
          rw [hxs, List.map_append, List.map_append]
          exact HSF.out.two hb.1 (by rw [len_data]; exact hb.2) hm (by rw [len_data, len_data]; exact hz)⟩
        have hi2 : (i : Int) < (N : Int) := by omega
        clear hti hlt hxs HSF
        go_wp2_with (first
        | (go_at_call 24; (with_reducible refine (HSE.out _ _ _ HM.out.store (by omega) (by omega) (by omega)).mono ?_); rintro e w7 ⟨y, rfl, hs7, hk7⟩; have HM := Aside0.mk (HM.out.drawn hs7 hk7); clear hs7 hk7)
        | (go_at_call 25; (with_reducible refine (HNA.out _ _ HM.out.store (by omega)).mono ?_); rintro e w8 ⟨nm, rfl, hz8, hl8, hs8, hk8⟩; have HM := Aside0.mk (HM.out.drawn hs8 hk8); have HLT := Aside0.mk hl8; have HBN := Aside0.mk (blankN hl8 hz8); clear hs8 hk8 hl8)
        | (go_at_call 17; (with_reducible refine (HL.out _ _ _ HM.out.store (by omega) (by omega) (by omega)).mono ?_); rintro e w9 ⟨y, rfl, y0, y1, hs9, hk9⟩; have HM := Aside0.mk (HM.out.drawn hs9 hk9); obtain ⟨y, rfl⟩ : ∃ n : Nat, y = (n : Int) := ⟨y.toNat, by omega⟩; have hy5 : y ≤ 5 := (by omega); clear hs9 hk9)
        | (go_at_call 17; (with_reducible refine (HL.out _ _ _ (HM.out.alloc _).store (by omega) (by omega) (by omega)).mono ?_); rintro e w10 ⟨y, rfl, y0, y1, hs10, hk10⟩; obtain ⟨y, rfl⟩ : ∃ n : Nat, y = (n : Int) := ⟨y.toNat, by omega⟩; obtain ⟨ts, hts, hbl⟩ := tab4_says (v := y) BlankS ((hk10.block _ (by simp) (by have := HM.out.store.low; have := HM.out.size; omega)).trans (heap_new _ _)) (by omega) blank0 blank3 HBN.out HBR.out; have HBL := Aside0.mk hbl; have HM := Aside0.mk ((HM.out.alloc _).drawn hs10 hk10); clear hs10 hk10 hbl)
        | (go_at_call 26; (with_reducible refine (HRP.out k _ (by omega)).mono ?_); rintro e w11 ⟨rs, rfl, hr11, hz11, hb11⟩; have HM := Aside0.mk (HM.out.step hb11); have HRS := Aside0.mk hr11; clear hr11 hb11)
        | (go_at_call 26; (with_reducible refine (HRP.out y _ (by omega)).mono ?_); rintro e w12 ⟨rs, rfl, hr12, hz12, hb12⟩; have HM := Aside0.mk (HM.out.step hb12); have HBR := Aside0.mk (blankR hr12 hz12 hy5); clear hr12 hb12)
        | (at_builtin; refine wpList_append_own_at _ rfl _ _ 28 rfl (w5.heap.size + 1) 9 i0 _ 1 16 Tryz.underlying28 HI.out HZ0.out HZ1.out HZ2.out rfl (by decide) (.slice _ _ _) _ _ rfl (HM.out.alloc _).own ⟨_, 0, none⟩ 1 1 [.string _] rfl rfl (fun j u h => cells_new _ _ 9 j u h) (by simp [Value.oneCell']) (by unfold maxLen; omega) (by omega) (HM.out.alloc _).size ?_; intro v' w13 hown' hgrow _ hat; obtain ⟨g', c', rfl⟩ := ownsRow_succ hown'; have HM := Aside0.mk ((HM.out.alloc _).put hgrow hown'); clear hown' hgrow hat))
        · go_roundg f
          case measure => omega
          case rel => first
            | exact ⟨i + 1, _, _, _, _, _, by go_num, rfl, by omega, by omega, by omega, ⟨HM.out, HS2.out _ _ HBL.out (line1 HRS.out HLT.out) (by simp only [ByteArray.size_append]; have h45 : (⟨#[32, 45, 45, 32]⟩ : ByteArray).size = 4 := rfl; omega)⟩⟩
            | exact ⟨i + 1, _, _, _, _, _, by go_num, rfl, by omega, by omega, by omega, ⟨HM.out, HS2.out _ _ HBL.out (line0 HRS.out) (by rw [ByteArray.size_append]; omega)⟩⟩
            | exact ⟨i + 1, _, _, _, _, _, by go_num, rfl, by omega, by omega, by omega, ⟨HM.out, HS1.out _ (line1 HRS.out HLT.out) (by simp only [ByteArray.size_append]; have h45 : (⟨#[32, 45, 45, 32]⟩ : ByteArray).size = 4 := rfl; omega)⟩⟩
            | exact ⟨i + 1, _, _, _, _, _, by go_num, rfl, by omega, by omega, by omega, ⟨HM.out, HS1.out _ (line0 HRS.out) (by rw [ByteArray.size_append]; omega)⟩⟩
        · go_roundg f
          case measure => omega
          case rel => first
            | exact ⟨i + 1, _, _, _, _, _, by go_num, rfl, by omega, by omega, by omega, ⟨HM.out, HS2.out _ _ HBL.out (line1 HRS.out HLT.out) (by simp only [ByteArray.size_append]; have h45 : (⟨#[32, 45, 45, 32]⟩ : ByteArray).size = 4 := rfl; omega)⟩⟩
            | exact ⟨i + 1, _, _, _, _, _, by go_num, rfl, by omega, by omega, by omega, ⟨HM.out, HS2.out _ _ HBL.out (line0 HRS.out) (by rw [ByteArray.size_append]; omega)⟩⟩
            | exact ⟨i + 1, _, _, _, _, _, by go_num, rfl, by omega, by omega, by omega, ⟨HM.out, HS1.out _ (line1 HRS.out HLT.out) (by simp only [ByteArray.size_append]; have h45 : (⟨#[32, 45, 45, 32]⟩ : ByteArray).size = 4 := rfl; omega)⟩⟩
            | exact ⟨i + 1, _, _, _, _, _, by go_num, rfl, by omega, by omega, by omega, ⟨HM.out, HS1.out _ (line0 HRS.out) (by rw [ByteArray.size_append]; omega)⟩⟩
        · go_roundg f
          case measure => omega
          case rel => first
            | exact ⟨i + 1, _, _, _, _, _, by go_num, rfl, by omega, by omega, by omega, ⟨HM.out, HS2.out _ _ HBL.out (line1 HRS.out HLT.out) (by simp only [ByteArray.size_append]; have h45 : (⟨#[32, 45, 45, 32]⟩ : ByteArray).size = 4 := rfl; omega)⟩⟩
            | exact ⟨i + 1, _, _, _, _, _, by go_num, rfl, by omega, by omega, by omega, ⟨HM.out, HS2.out _ _ HBL.out (line0 HRS.out) (by rw [ByteArray.size_append]; omega)⟩⟩
            | exact ⟨i + 1, _, _, _, _, _, by go_num, rfl, by omega, by omega, by omega, ⟨HM.out, HS1.out _ (line1 HRS.out HLT.out) (by simp only [ByteArray.size_append]; have h45 : (⟨#[32, 45, 45, 32]⟩ : ByteArray).size = 4 := rfl; omega)⟩⟩
            | exact ⟨i + 1, _, _, _, _, _, by go_num, rfl, by omega, by omega, by omega, ⟨HM.out, HS1.out _ (line0 HRS.out) (by rw [ByteArray.size_append]; omega)⟩⟩
        · go_roundg f
          case measure => omega
          case rel => first
            | exact ⟨i + 1, _, _, _, _, _, by go_num, rfl, by omega, by omega, by omega, ⟨HM.out, HS2.out _ _ HBL.out (line1 HRS.out HLT.out) (by simp only [ByteArray.size_append]; have h45 : (⟨#[32, 45, 45, 32]⟩ : ByteArray).size = 4 := rfl; omega)⟩⟩
            | exact ⟨i + 1, _, _, _, _, _, by go_num, rfl, by omega, by omega, by omega, ⟨HM.out, HS2.out _ _ HBL.out (line0 HRS.out) (by rw [ByteArray.size_append]; omega)⟩⟩
            | exact ⟨i + 1, _, _, _, _, _, by go_num, rfl, by omega, by omega, by omega, ⟨HM.out, HS1.out _ (line1 HRS.out HLT.out) (by simp only [ByteArray.size_append]; have h45 : (⟨#[32, 45, 45, 32]⟩ : ByteArray).size = 4 := rfl; omega)⟩⟩
            | exact ⟨i + 1, _, _, _, _, _, by go_num, rfl, by omega, by omega, by omega, ⟨HM.out, HS1.out _ (line0 HRS.out) (by rw [ByteArray.size_append]; omega)⟩⟩
      · obtain rfl : i = N := by omega
        have htk : ls.take i = ls := List.take_of_length_le (by rw [HN.out]; exact Nat.le_refl _)
        have hso := HSF.out
        rw [htk] at hso
        have hne : ls.map (·.data.toList) ≠ [] := fun h => by
          have := congrArg List.length h
          rw [List.length_map, HN.out] at this
          simp at this
          omega
        have hmv := hso.all hne
        have hne2 := hmv.ne.2
        have hz1 := tot_join _ hne2
        have hz2 := hso.size
        rw [HTO.out, List.length_map, HN.out] at hz2
        have hs9 := HSZ.out
        have hjl : (joinN (zs.map (·.data.toList))).length ≤ 60000 := by omega
        have hzl : 1 ≤ m := by
          rcases Nat.eq_zero_or_pos m with h | h
          · have := HM.out.len
            rw [h] at this
            rw [List.eq_nil_of_length_eq_zero this] at hne2
            exact absurd rfl hne2
          · exact h
        obtain ⟨bk, rfl, hcap, hcells, hbk⟩ : ∃ bk, O = some ⟨bk, 0, none⟩ ∧ m ≤ c ∧ (∀ (j : Nat) x, zs[j]? = some x → wr.cell? ⟨bk, j, none⟩ = some (.string x)) ∧ bk < wr.heap.size := by
          have ho := HM.out.own
          rcases ho.2 with ⟨_, h2⟩ | ⟨g, cap, cur, hv, _, hh, hc, _, _, _⟩
          · omega
          · injection hv with a1 a2 a3
            subst a1 a3
            refine ⟨g, rfl, hc, fun j x hj => ?_, heap_lt hh⟩
            have hcs := ho.cells rfl
            have e : (⟨g, 0, none⟩ : Addr).add j = ⟨g, j, none⟩ := addr_add g j
            rw [← e]
            exact hcs _ _ (by rw [List.getElem?_map, hj]; rfl)
        have HCE := Aside0.mk hcells
        have HJ : Aside0 (∀ W, Below wr.heap.size wr W → Calls Tryz.prog 18 #[.slice (some ⟨bk, 0, none⟩) m c, .string ⟨#[10]⟩] W fun e w' => e = .returned (.string (bytes (joinN (zs.map (·.data.toList))))) ∧ Below W.heap.size W w') := ⟨fun W hW => by
          have := join10_at zs bk c W (fun j x hj => (hW.cell (p := ⟨bk, j, none⟩) hbk).trans (HCE.out j x hj)) (Nat.lt_of_lt_of_le hbk hW.size) (by rw [HM.out.len]; omega) (by rw [HM.out.len]; exact hcap) (by omega)
          rwa [HM.out.len] at this⟩
        obtain ⟨s', hs'⟩ : ∃ s', bytes (joinN (zs.map (·.data.toList))) = s' := ⟨_, rfl⟩
        have hd' : s'.data.toList = joinN (zs.map (·.data.toList)) := by rw [← hs', bytes_list]
        have hz' : s'.size ≤ 60000 := by rw [← len_data, hd']; exact hjl
        have hlaw := moves_law hmv (by rw [← HLB.out]; exact lineB_noNl s) (by rw [← HLB.out]; exact lineB_join s) hd' (by omega) (by rw [HP.out])
        have HT1 := tok_says2 s (by omega)
        have HT2 := tok_says2 s' (by omega)
        have hn1 := tokLen s
        have hn2 := tokLen s'
        rw [hs'] at HJ
        have HWr := Aside0.mk HM.out.below
        generalize tokF s = Q at hlaw HT1 hn1
        generalize tokF s' = Q' at hlaw HT2 hn2
        obtain ⟨l, at1, e1⟩ := Q
        obtain ⟨l', at2, e2⟩ := Q'
        simp only at hlaw HT1 HT2 hn1 hn2
        obtain ⟨hbare, he⟩ := hlaw
        subst he
        have heq : (e2 == e2) = true := beq_self_eq_true _
        have hlen : l'.length = l.length := by
          have := congrArg List.length hbare
          simpa using this
        have hbare2 : l'.map tokBare = l.map tokBare := hbare
        have HBL := Aside0.mk (fun A c W (h : SrcC A l W) => bares_any l A c W hn1 h)
        have HBL' := Aside0.mk (fun A c W (h : SrcC A l' W) => bares_any l' A c W hn2 h)
        have HEQ : Aside0 (∀ A0 A1 c0 c1 W, SrcB A0 (l.map tokBare) W → l.length ≤ c0 → SrcB A1 (l'.map tokBare) W → l'.length ≤ c1 → Calls Tryz.prog 27 #[.slice A0 l.length c0, .slice A1 l'.length c1] W fun e w' => e = .returned (.bool true) ∧ Below W.heap.size W w') := ⟨fun A0 A1 c0 c1 W h0 hc0 h1 hc1 => by
          rw [hbare2] at h1
          rw [hlen] at hc1 ⊢
          have := equalB_any (l.map tokBare) (by rw [List.length_map]; omega) A0 A1 c0 c1 W h0 (by rw [List.length_map]; exact hc0) h1 (by rw [List.length_map]; exact hc1)
          rwa [List.length_map] at this⟩
        clear hbare hbare2 hlen htk hso hne hmv hne2 hz1 hz2 hs9 hjl hcells hd' hz' HSF HM HCE HSE HL HNA HRP HLB HTO HP
        generalize l.length = q1 at HT1 HBL HEQ hn1
        generalize l'.length = q2 at HT2 HBL' HEQ hn2
        go_wp2_with (first
          | (go_at_call 19; (with_reducible refine (HT1.out _ (HT.out.on HWr.out)).mono ?_); rintro e wA ⟨A2, c2, rfl, hc2, hsr, hb⟩; have HSA := Aside0.mk hsr; have HRA := Aside0.mk hb; have HWA := Aside0.mk (HWr.out.trans (hb.mono HWr.out.size)); clear hsr hb)
          | (go_at_call 18; (with_reducible refine (HJ.out _ HRA.out).mono ?_); rintro e wB ⟨rfl, hb⟩; have HSB := Aside0.mk (HSA.out.below hb); have HWB := Aside0.mk (HWA.out.trans (hb.mono HWA.out.size)); clear hb)
          | (go_at_call 19; (with_reducible refine (HT2.out _ (HT.out.on HWB.out)).mono ?_); rintro e wC ⟨A3, c3, rfl, hc3, hsr, hb⟩; have HSC := Aside0.mk hsr; have HSB := Aside0.mk (HSB.out.below hb); have HWC := Aside0.mk (HWB.out.trans (hb.mono HWB.out.size)); clear hsr hb)
          | (go_at_call 28; (with_reducible refine (HBL.out _ _ _ HSB.out).mono ?_); rintro e wD ⟨O4, c4, rfl, hc4, hsr, hb⟩; have HSD := Aside0.mk hsr; have HSC := Aside0.mk (HSC.out.below hb); have HWD := Aside0.mk (HWC.out.trans (hb.mono HWC.out.size)); clear hsr hb)
          | (go_at_call 28; (with_reducible refine (HBL'.out _ _ _ HSC.out).mono ?_); rintro e wE ⟨O5, c5, rfl, hc5, hsr, hb⟩; have HSE := Aside0.mk hsr; have HSD := Aside0.mk (HSD.out.below hb); have HWE := Aside0.mk (HWD.out.trans (hb.mono HWD.out.size)); clear hsr hb)
          | (go_at_call 27; (with_reducible refine (HEQ.out _ _ _ _ _ HSD.out hc4 HSE.out hc5).mono ?_); rintro e wF ⟨rfl, hb⟩; have HWF := Aside0.mk (HWE.out.trans (hb.mono HWE.out.size)); clear hb)
          | (go_at_call 13; (with_reducible refine (HAW.out _ (HT.out.on HWF.out)).mono ?_); rintro e wG ⟨rfl, hb⟩; have HWG := Aside0.mk (HWF.out.trans (hb.mono HWF.out.size)); clear hb))
        go_ret
        exact ⟨rfl, HWG.out⟩
  · have h1b : (e0 == 0) = false := beq_eq_false_iff_ne.2 he
    have h1c : (e0 != 0) = true := by simp [he]
    clear he HP HX3 HG3
    go_wp2_with (first | (go_at_call 22; (with_reducible refine (HR1.out _).mono ?_); rintro e w5 ⟨v5, rfl, hb5⟩; have HW5 := Aside0.mk (HW3.out.trans (hb5.mono HW3.out.size)); clear hb5) | (go_at_call 13; (with_reducible refine (HAW.out _ (HT.out.on HW5.out)).mono ?_); rintro e w9 ⟨rfl, hb9⟩; have HW9 := Aside0.mk (HW5.out.trans (hb9.mono HW5.out.size)); clear hb9))
    go_ret
    exact ⟨rfl, HW9.out⟩

end Go.Proofs.YtfnhjdehlikbaaaGreatDoor.Lx

