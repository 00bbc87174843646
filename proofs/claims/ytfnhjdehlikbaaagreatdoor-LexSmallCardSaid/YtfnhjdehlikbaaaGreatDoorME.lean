import Derived.Test.YtfnhjdehlikbaaaGreatDoorMD
import Derived.Test.YtfnhjdehlikbaaaGreatDoorM6
import Derived.Test.YtfnhjdehlikbaaaGreatDoorM4
import Derived.Test.YtfnhjdehlikbaaaGreatDoorM7
import Derived.Shelf.Strings.Repeat
import Derived.Test.YtfnhjdehlikbaaaGreatDoorS2
import Derived.Shelf.Strings.BuilderK
import Derived.ChangeKeysEq
set_option linter.unusedVariables false
set_option linter.unusedSimpArgs false
namespace Go.Proofs
theorem Tryz.repeatExtra : Builder.Extra Tryz.prog Tryz.laysRepeat_ren :=
  { sizeBuilder := by kernel_rfl, liesBuilder := by kernel_rfl, t5 := Tryz.laysSplit.t5, a5 := Tryz.laysSplit.a5, z5 := Tryz.laysSplit.z5, v5 := Tryz.laysSplit.v5, infoByte := by kernel_rfl, cellsByte := by kernel_rfl, sizeByte := by kernel_rfl, neB5 := by decide }
end Go.Proofs
namespace Go.Proofs.YtfnhjdehlikbaaaGreatDoor.Lx
open Go.RowKit Go.Proofs.YtfnhjdehlikbaaaGreatDoorW.PrintWords
def BuildAt (B b : Nat) (l : List UInt8) (W : World) : Prop := Lib.IsBuilder 87 5 B b (Lib.byteCells l) W
theorem byteCells_append (a b : List UInt8) : Lib.byteCells (a ++ b) = Lib.byteCells a ++ Lib.byteCells b := by simp [Lib.byteCells]
theorem BuildAt.keep {B b k : Nat} {l : List UInt8} {W W' : World} (h : BuildAt B b l W) (hk : Keep (· = k) W W') (hkB : k < B) : BuildAt B b l W' := by
  have key : ∀ p, Lib.BuilderAt 87 5 B b p (Lib.byteCells l) W → Lib.BuilderAt 87 5 B b p (Lib.byteCells l) W' := fun p hp => by
    obtain ⟨hB, v, hb, hown, hne⟩ := hp
    refine ⟨hB, v, (hk.block b (heap_lt hb) (by omega)).trans hb, own_move hown (fun i hi => hk.block i (own_lt hown i hi) (fun e => ?_)), hne⟩
    have := own_base hown i hi
    omega
  rcases h with h | h
  · exact .inl (key _ h)
  · exact .inr (key _ h)
theorem repeat_any (s : ByteArray) (c : Nat) (w : World) (hc : c ≤ 1000000) (hlen : s.size * c ≤ 1000000) :
    Calls Tryz.prog 26 #[.string s, .int .i64 c] w fun e w' => e = .returned (.string ⟨(Lib.repeatL s.data.toList c).toArray⟩) ∧ Below w.heap.size w w' :=
  Any.strings_Repeat Tryz.laysRepeat Tryz.repeatExtra s c w (by omega) (by omega)
end Go.Proofs.YtfnhjdehlikbaaaGreatDoor.Lx
namespace Go.Proofs.YtfnhjdehlikbaaaGreatDoor.Lx
open Go.RowKit Go.Proofs.YtfnhjdehlikbaaaGreatDoorW.PrintWords
theorem info3 : (Tryz.prog.info? 3).map (fun i => (i.zero, i.size, i.bytes)) = some (some (.int .i64 0), 1, 8) := by kernel_rfl
theorem cellsOf3 : Tryz.prog.cellsOf 3 = 1 := by kernel_rfl
theorem part3 (xs : Array Value) (i : Nat) (k : Int) (h : xs[i]? = some (.int .i64 k)) (W : World) : (Go.part 3 xs i).run Tryz.prog W = .ok (.int .i64 k) W := by
  go_simp
theorem eq108 (x y : Int) (W : World) : (Op.equalIn 10000 108 (.agg #[.int .i64 x, .int .i64 y]) (.agg #[.int .i64 0, .int .i64 0])).run Tryz.prog W = .ok (x == 0 && y == 0) W := by
  obtain ⟨i3, hi, _⟩ := info_parts info3
  rw [run_equalIn_array W 9999 _ _ Tryz.underlying108 hi, cellsOf3]
  have h0 := part3 #[.int .i64 x, .int .i64 y] 0 x rfl W
  have h1 := part3 #[.int .i64 x, .int .i64 y] 1 y rfl W
  have g0 := part3 #[.int .i64 0, .int .i64 0] 0 0 rfl W
  have g1 := part3 #[.int .i64 0, .int .i64 0] 1 0 rfl W
  have he : ∀ a b : Int, (Op.equalIn 9999 3 (.int .i64 a) (.int .i64 b)).run Tryz.prog W = .ok (a == b) W := fun a b => by go_simp
  show (Op.eqItems 9999 3 1 #[.int .i64 x, .int .i64 y] #[.int .i64 0, .int .i64 0] [0, 1]).run Tryz.prog W = _
  simp only [Op.eqItems, Sem.run_bind, Nat.zero_mul, Nat.one_mul, h0, g0, h1, g1, Result.andThen_ok, he]
  cases hx : (x == 0) <;> cases hy : (y == 0) <;> simp [Sem.run_pure, hx, hy, h1, g1, he]
def BuildF (B b : Nat) (l : List UInt8) (W : World) : Prop := Lib.IsBuilderF 87 5 B b (Lib.byteCells l) W
theorem BuildF.step {B b : Nat} {l : List UInt8} {W W' : World} (h : BuildF B b l W) (hb : Below W.heap.size W W') : BuildF B b l W' := by
  have key : ∀ p, Lib.BuilderAtF 87 5 B b p (Lib.byteCells l) W → Lib.BuilderAtF 87 5 B b p (Lib.byteCells l) W' := fun p hp => by
    obtain ⟨hB, v, hbk, hown, hne⟩ := hp
    refine ⟨hB, v, (hb.block b (heap_lt hbk)).trans hbk, ⟨hown.1, ?_⟩, hne⟩
    rcases hown.2 with hn | ⟨g, cap, cur, fz, hv, h1, hg, rest⟩
    · exact .inl hn
    · exact .inr ⟨g, cap, cur, fz, hv, h1, (hb.block g (heap_lt hg)).trans hg, rest⟩
  rcases h with h | h
  · exact .inl (key _ h)
  · exact .inr (key _ h)
theorem writeF_any (B b : Nat) (l : List UInt8) (s : ByteArray) (w : World) (h : BuildF B b l w) (hl : l.length ≤ 1000000) (hs : s.size ≤ 1000000) (hB : B ≤ w.heap.size) :
    Calls Tryz.prog 54 #[.pointer (some ⟨b, 0, none⟩), .string s] w fun e w' => e = .returned (.tuple #[.int .i64 s.size, .nilIface]) ∧ BuildF B b (l ++ s.data.toList) w' ∧ Below B w w' ∧ Lib.OthersKept 5 (some b) w w' :=
  (Any.Builder_WriteString_k { Tryz.laysJoin with } Tryz.joinExtra B b (Lib.byteCells l) s w h (by rw [show (Lib.byteCells l).length = l.length by simp [Lib.byteCells]]; omega) hB).mono fun e w' ⟨he, h1, h2, h3⟩ =>
    ⟨he, .inr (by rw [byteCells_append]; exact h1), h2, h3⟩
theorem stringF_any (B b : Nat) (l : List UInt8) (w : World) (h : BuildF B b l w) (hB : B ≤ w.heap.size) :
    Calls Tryz.prog 55 #[.pointer (some ⟨b, 0, none⟩)] w fun e w' => e = .returned (.string ⟨l.toArray⟩) ∧ Below B w w' :=
  (Any.Builder_String_any_k { Tryz.laysJoin with } Tryz.joinExtra B b l w h hB).mono fun e w' ⟨he, _, h2, _⟩ => ⟨he, h2⟩
theorem buildF_new (w : World) : BuildF w.heap.size w.heap.size [] (w.alloc (.cells #[.pointer none, .slice none 0 0] 87)) :=
  .inl ⟨Nat.le_refl _, _, heap_new w _, World.ownsRowF_nil _ _ _ _, by simp [Value.ownBlock]⟩
structure BldrAt (w : World) (u : List UInt8) (W : World) : Prop where
  build : BuildF w.heap.size w.heap.size u W
  below : Below w.heap.size w W
structure RdAt (w : World) (p : Nat) (t : Tok) (x y : Int) (u : List UInt8) (W : World) : Prop where
  cl : BldrAt w u W
  tok : W.heap[p]? = some (.cells t.cells 54)
  gap : W.heap[p + 1]? = some (.cells #[.int .i64 x, .int .i64 y] 108)
  far : w.heap.size < p
section
variable {w : World} {p : Nat} {t : Tok} {x y : Int} {u : List UInt8} {W W' : World}
theorem BldrAt.step (h : BldrAt w u W) (hb : Below W.heap.size W W') : BldrAt w u W' := ⟨h.build.step hb, h.below.trans (hb.mono h.below.size)⟩
theorem RdAt.step (h : RdAt w p t x y u W) (hb : Below W.heap.size W W') : RdAt w p t x y u W' := ⟨h.cl.step hb, (hb.block _ (heap_lt h.tok)).trans h.tok, (hb.block _ (heap_lt h.gap)).trans h.gap, h.far⟩
theorem RdAt.cells (h : RdAt w p t x y u W) : W.cell? ⟨p, 0, none⟩ = some (.int .i64 t.kind) ∧ W.cell? ⟨p, 1, none⟩ = some (.int .i64 t.num) ∧ W.cell? ⟨p, 2, none⟩ = some (.string t.text) ∧ W.cell? ⟨p, 3, none⟩ = some (.int .i64 t.at_) ∧ W.cell? ⟨p, 4, none⟩ = some (.int .i64 t.line) ∧ W.cell? ⟨p, 5, none⟩ = some (.int .i64 t.col) ∧ W.cell? ⟨p + 1, 0, none⟩ = some (.int .i64 x) ∧ W.cell? ⟨p + 1, 1, none⟩ = some (.int .i64 y) :=
  ⟨cell_of h.tok 0, cell_of h.tok 1, cell_of h.tok 2, cell_of h.tok 3, cell_of h.tok 4, cell_of h.tok 5, cell_of h.gap 0, cell_of h.gap 1⟩
theorem BldrAt.write (h : BldrAt w u W) (s : ByteArray) (hu : u.length ≤ 1000000) (hs : s.size ≤ 1000000) :
    Calls Tryz.prog 54 #[.pointer (some ⟨w.heap.size, 0, none⟩), .string s] W fun e w' => e = .returned (.tuple #[.int .i64 s.size, .nilIface]) ∧ BldrAt w (u ++ s.data.toList) w' ∧ Lib.OthersKept 5 (some w.heap.size) W w' :=
  (writeF_any _ _ u s W h.build hu hs h.below.size).mono fun e w' ⟨he, h1, h2, h3⟩ => ⟨he, ⟨h1, h.below.trans h2⟩, h3⟩
theorem RdAt.write (h : RdAt w p t x y u W) (s : ByteArray) (hu : u.length ≤ 1000000) (hs : s.size ≤ 1000000) :
    Calls Tryz.prog 54 #[.pointer (some ⟨w.heap.size, 0, none⟩), .string s] W fun e w' => e = .returned (.tuple #[.int .i64 s.size, .nilIface]) ∧ RdAt w p t x y (u ++ s.data.toList) w' :=
  (h.cl.write s hu hs).mono fun e w' ⟨he, h1, h3⟩ => ⟨he, ⟨h1, h3 _ _ h.tok (fun e => by injection e with e; have := h.far; omega) (fun c fz e => by injection e with _ e2; exact absurd e2 (by decide)), h3 _ _ h.gap (fun e => by injection e with e; have := h.far; omega) (fun c fz e => by injection e with _ e2; exact absurd e2 (by decide)), h.far⟩⟩
end
theorem gapsV_at (l : List Tok) : ∀ (n i : Nat), i < n → (gapsV l n)[i * 2]? = some (.int .i64 (gapA l i)) ∧ (gapsV l n)[i * 2 + 1]? = some (.int .i64 (gapB l i)) := by
  intro n
  induction n with
  | zero => intro i h; omega
  | succ n ih =>
    intro i hi
    have hlen := gapsV_len l n
    rw [gapsV]
    by_cases h : i = n
    · subst h
      rw [List.getElem?_append_right (by omega), List.getElem?_append_right (by omega), hlen]
      simp
    · rw [List.getElem?_append_left (by omega), List.getElem?_append_left (by omega)]
      exact ih i (by omega)
theorem repeatL_one (c : UInt8) (k : Nat) : Lib.repeatL (⟨#[c]⟩ : ByteArray).data.toList k = List.replicate k c := by
  induction k with
  | zero => rfl
  | succ k ih => rw [List.replicate_succ, ← ih]; rfl
set_option maxRecDepth 100000 in
set_option maxHeartbeats 16000000 in
theorem set69_any (l : List Tok) (A : Option Addr) (c : Nat) (w0 : World) (hl : l.length ≤ 4000) (hg : GoodL l) (b : Nat) (hl1 hc1 : Int) (v : Value) (w : World) (hR : SetAt w0 b A l.length c l.length (gapsV l l.length) hl1 hc1 v w) (hT : SrcC A l w) (hz : (setS l l.length).length ≤ 65536) :
    Calls Tryz.prog 69 #[.pointer (some ⟨w0.heap.size, 0, none⟩), .pointer (some ⟨b, 0, none⟩)] w fun e w' => e = .returned (.string ⟨(setS l l.length).toArray⟩) ∧ Below w.heap.size w w' := by
  obtain ⟨n, hn⟩ : ∃ n, l.length = n := ⟨_, rfl⟩
  rw [hn] at hl hR hz ⊢
  have HN := Aside0.mk hn
  have HS := Aside0.mk hT
  have HG := Aside0.mk hg
  have HZ := Aside0.mk hz
  obtain ⟨G, cg, rfl⟩ := hR.form
  have c0 : w.cell? ⟨w0.heap.size, 0, none⟩ = some (.slice A n c) := cell_of hR.src 0
  have c1 : w.cell? ⟨b, 0, none⟩ = some (.slice G n cg) := cell_of hR.box 0
  have hp0 : w0.heap.size < w.heap.size := heap_lt hR.src
  have hpb : b < w.heap.size := heap_lt hR.box
  have HB1 := Aside0.mk hR.box
  have HGP : Aside0 (∀ i, i < n → ∃ q, G = some ⟨q, 0, none⟩ ∧ q < w.heap.size ∧ w.cell? ⟨q, i * 2, none⟩ = some (.int .i64 (gapA l i)) ∧ w.cell? ⟨q, i * 2 + 1, none⟩ = some (.int .i64 (gapB l i))) := ⟨fun i hi => by
    obtain ⟨g1, g2⟩ := gapsV_at l n i hi
    rcases hR.own.2 with ⟨_, h2⟩ | ⟨q, cap, cur, h1, h2, h3, h4, h5, h6, h7⟩
    · omega
    · injection h1 with h1 _ _
      refine ⟨q, h1, heap_lt h3, ?_, ?_⟩
      · rw [cell_of h3]
        rw [← h7, List.getElem?_take_of_lt (by omega)] at g1
        simpa using g1
      · rw [cell_of h3]
        rw [← h7, List.getElem?_take_of_lt (by omega)] at g2
        simpa using g2⟩
  clear hR hT hn hz hg
  go_enter Tryz.func69, Tryz.ntmps69
  go_wp2
  go_loopg [9] n (fun f t9 wr => ∃ (i : Nat), t9 = .int .i64 (i : Int) ∧ i + f = n ∧ Aside0 (BldrAt w (setS l i) wr))
  case atStart => exact ⟨0, rfl, by omega, ⟨⟨buildF_new w, (Below.refl _ w).alloc (Nat.le_refl _) _⟩⟩⟩
  case round =>
    obtain ⟨i, rfl, hif, HC⟩ := hrel
    by_cases hi : i < n
    · obtain ⟨f, rfl⟩ : ∃ f, gk = f + 1 := ⟨gk - 1, by omega⟩
      have hlt : i < l.length := by rw [HN.out]; exact hi
      have hi2 : (i : Int) < (n : Int) := by omega
      have hti := List.getElem?_eq_getElem hlt
      obtain ⟨p1, p2, p3, p4⟩ := gaps_good HG.out hlt
      have hm1 := setS_mono l (show i + 1 ≤ n by omega)
      have hz1 := HZ.out
      have hss : setS l (i + 1) = setS l i ++ pieceS l i := rfl
      have hpc : pieceS l i = List.replicate (gapA l i).toNat 10 ++ List.replicate (gapB l i).toNat 32 ++ l[i].text.data.toList := by unfold pieceS; rw [hti]; rfl
      have hln : (setS l (i + 1)).length = (setS l i).length + ((gapA l i).toNat + (gapB l i).toNat + l[i].text.size) := by
        rw [hss, hpc]
        have := len_data l[i].text
        simp only [List.length_append, List.length_replicate]
        omega
      obtain ⟨q, rfl, hqw, g0, g1⟩ := HGP.out i hi
      have hbl := HC.out.below
      have hsz := hbl.size
      have k0 := (hbl.cell (p := ⟨q, i * 2, none⟩) hqw).trans g0
      have k1 := (hbl.cell (p := ⟨q, i * 2 + 1, none⟩) hqw).trans g1
      have kb := (hbl.cell (p := ⟨b, 0, none⟩) hpb).trans c1
      obtain ⟨g, rfl, q0, q1, q2, q3, q4, q5⟩ := (HS.out.below hbl) i _ hti
      generalize l[i] = t at hpc hln q0 q1 q2 q3 q4 q5
      generalize gapA l i = x at *
      generalize gapB l i = y at *
      obtain ⟨x, rfl⟩ : ∃ k : Nat, x = (k : Int) := ⟨x.toNat, by omega⟩
      obtain ⟨y, rfl⟩ : ∃ k : Nat, y = (k : Int) := ⟨y.toNat, by omega⟩
      simp only [Int.toNat_natCast] at hpc hln
      obtain ⟨tk, tn, tx, ta, tl, tc⟩ := t
      simp only at hpc hln q0 q1 q2 q3 q4 q5
      have hgw : g < wr.heap.size := World.block_lt_of_cell? _ _ q0
      have hqw2 : q < wr.heap.size := by omega
      have hbw2 : b < wr.heap.size := by omega
      have HSS := Aside0.mk (hss.trans (by rw [hpc]))
      have hu1 : (setS l i).length ≤ 65536 := by omega
      have hu2 : (setS l i).length + (x + y + tx.size) ≤ 65536 := by omega
      have HU := Aside0.mk hu2
      have HRD : Aside0 (RdAt w wr.heap.size ⟨tk, tn, tx, ta, tl, tc⟩ x y (setS l i) ((wr.alloc (.cells #[.int .i64 tk, .int .i64 tn, .string tx, .int .i64 ta, .int .i64 tl, .int .i64 tc] 54)).alloc (.cells #[.int .i64 x, .int .i64 y] 108))) :=
        ⟨⟨(HC.out.step ((Below.refl _ wr).alloc (Nat.le_refl _) _)).step ((Below.refl _ _).alloc (Nat.le_refl _) _), heap_alloc (heap_new wr _) _, heap_new' _ _ _ (by simp), by
          rcases HC.out.build with hh | hh
          · exact hh.lt
          · exact hh.lt⟩⟩
      generalize setS l i = u at *
      clear hss hpc hln hm1 hz1 hti hlt p1 p2 p3 p4 g0 g1
      have HRA := Aside0.mk (fun W => repeat_any ⟨#[10]⟩ x W (by omega) (by show 1 * x ≤ 1000000; omega))
      have HRB := Aside0.mk (fun W => repeat_any ⟨#[32]⟩ y W (by omega) (by show 1 * y ≤ 1000000; omega))
      have hra : (⟨(Lib.repeatL (⟨#[10]⟩ : ByteArray).data.toList x).toArray⟩ ++ ⟨(Lib.repeatL (⟨#[32]⟩ : ByteArray).data.toList y).toArray⟩ : ByteArray).data.toList = List.replicate x 10 ++ List.replicate y 32 := by
        rw [ByteArray.data_append, Array.toList_append, List.toList_toArray, List.toList_toArray, repeatL_one, repeatL_one]
      have HRC := Aside0.mk hra
      have hrs : (⟨(Lib.repeatL (⟨#[10]⟩ : ByteArray).data.toList x).toArray⟩ ++ ⟨(Lib.repeatL (⟨#[32]⟩ : ByteArray).data.toList y).toArray⟩ : ByteArray).size = x + y := by
        rw [← len_data, hra]; simp
      have HRS := Aside0.mk hrs
      generalize (⟨(Lib.repeatL (⟨#[10]⟩ : ByteArray).data.toList x).toArray⟩ : ByteArray) = ra at HRA HRC HRS hra hrs
      generalize (⟨(Lib.repeatL (⟨#[32]⟩ : ByteArray).data.toList y).toArray⟩ : ByteArray) = rb at HRB HRC HRS hra hrs
      have HW1 : Aside0 (∀ W, RdAt w wr.heap.size ⟨tk, tn, tx, ta, tl, tc⟩ x y u W → Calls Tryz.prog 54 #[.pointer (some ⟨w.heap.size, 0, none⟩), .string (ra ++ rb)] W fun e w' => e = .returned (.tuple #[.int .i64 (ra ++ rb).size, .nilIface]) ∧ RdAt w wr.heap.size ⟨tk, tn, tx, ta, tl, tc⟩ x y (u ++ (ra ++ rb).data.toList) w') := ⟨fun W h => h.write _ (by omega) (by omega)⟩
      have HW2 : Aside0 (∀ W, RdAt w wr.heap.size ⟨tk, tn, tx, ta, tl, tc⟩ x y (u ++ (ra ++ rb).data.toList) W → Calls Tryz.prog 54 #[.pointer (some ⟨w.heap.size, 0, none⟩), .string tx] W fun e w' => e = .returned (.tuple #[.int .i64 tx.size, .nilIface]) ∧ RdAt w wr.heap.size ⟨tk, tn, tx, ta, tl, tc⟩ x y ((u ++ (ra ++ rb).data.toList) ++ tx.data.toList) w') := ⟨fun W h => h.write _ (by rw [List.length_append, HRC.out]; simp; omega) (by omega)⟩
      have HW3 : Aside0 (∀ W, RdAt w wr.heap.size ⟨tk, tn, tx, ta, tl, tc⟩ x y u W → Calls Tryz.prog 54 #[.pointer (some ⟨w.heap.size, 0, none⟩), .string tx] W fun e w' => e = .returned (.tuple #[.int .i64 tx.size, .nilIface]) ∧ RdAt w wr.heap.size ⟨tk, tn, tx, ta, tl, tc⟩ x y (u ++ tx.data.toList) w') := ⟨fun W h => h.write _ (by omega) (by omega)⟩
      clear hra hrs
      by_cases hxy : x = 0 ∧ y = 0
      · obtain ⟨rfl, rfl⟩ := hxy
        have HSS2 := Aside0.mk (show setS l (i + 1) = u ++ tx.data.toList by rw [HSS.out]; simp)
        have heq : ∀ W, (Op.equalIn 10000 108 (.agg #[.int .i64 0, .int .i64 0]) (.agg #[.int .i64 0, .int .i64 0])).run Tryz.prog W = .ok true W := fun W => eq108 0 0 W
        clear HW1 HW2 HRA HRB
        go_wp2_with (go_at_call 54; (refine (HW3.out _ HRD.out).mono ?_); rintro e w4 ⟨rfl, hA4⟩; have HA4 := Aside0.mk hA4; clear hA4)
        go_roundg f
        case measure => omega
        case rel => exact ⟨i + 1, by go_num, by omega, ⟨by rw [HSS2.out]; exact HA4.out.cl⟩⟩
      · have hxy0 : ((x : Int) == 0 && (y : Int) == 0) = false := by
          rw [Bool.and_eq_false_iff, beq_eq_false_iff_ne, beq_eq_false_iff_ne]
          by_cases h : x = 0
          · exact .inr (fun e => hxy ⟨h, by omega⟩)
          · exact .inl (fun e => h (by omega))
        have HSS2 := Aside0.mk (show setS l (i + 1) = (u ++ (ra ++ rb).data.toList) ++ tx.data.toList by rw [HSS.out, HRC.out]; simp)
        have HRD1 : Aside0 (RdAt w wr.heap.size ⟨tk, tn, tx, ta, tl, tc⟩ x y u ((wr.alloc (.cells #[.int .i64 tk, .int .i64 tn, .string tx, .int .i64 ta, .int .i64 tl, .int .i64 tc] 54)).alloc (.cells #[.int .i64 x, .int .i64 y] 108)).drew) := ⟨HRD.out.step (Below.refl _ _).drew⟩
        obtain ⟨r0, r1, r2, r3, r4, r5, r6, r7⟩ := HRD.out.cells
        have heq : ∀ W, (Op.equalIn 10000 108 (.agg #[.int .i64 (x : Int), .int .i64 (y : Int)]) (.agg #[.int .i64 0, .int .i64 0])).run Tryz.prog W = .ok false W := fun W => by rw [eq108 x y W, hxy0]
        have hcat : ra.size + rb.size ≤ 140737488355328 := by rw [← ByteArray.size_append, HRS.out]; omega
        have hcat2 : ¬ 140737488355328 < ra.size + rb.size := by omega
        have hcat3 : ra.size + rb.size ≤ 9223372036854775807 := by omega
        clear HW3 hxy0
        go_upto_region 7 with (fail)
        go_region_with (first | (go_at_call 26; (with_reducible refine (HRA.out _).mono ?_); rintro e w2 ⟨rfl, hb⟩; have hA : Aside0 (RdAt w wr.heap.size ⟨tk, tn, tx, ta, tl, tc⟩ x y u w2) := ⟨RdAt.step (Aside0.out (by assumption)) hb⟩; obtain ⟨m0, m1, m2, m3, m4, m5, m6, m7⟩ := hA.out.cells) | (go_at_call 26; (with_reducible refine (HRB.out _).mono ?_); rintro e w2 ⟨rfl, hb⟩; have hA : Aside0 (RdAt w wr.heap.size ⟨tk, tn, tx, ta, tl, tc⟩ x y u w2) := ⟨RdAt.step (Aside0.out (by assumption)) hb⟩; obtain ⟨m0, m1, m2, m3, m4, m5, m6, m7⟩ := hA.out.cells) | (go_at_call 54; (refine (HW1.out _ (Aside0.out (by assumption))).mono ?_); rintro e w3 ⟨rfl, hA3⟩; have hA4 : Aside0 (RdAt w wr.heap.size ⟨tk, tn, tx, ta, tl, tc⟩ x y (u ++ (ra ++ rb).data.toList) w3) := ⟨hA3⟩; obtain ⟨n0, n1, n2, n3, n4, n5, n6, n7⟩ := hA4.out.cells; clear hA3))
        all_goals
          go_wp2_with (go_at_call 54; (refine (HW2.out _ (Aside0.out (by assumption))).mono ?_); rintro e w4 ⟨rfl, hA4⟩; have HA5 := Aside0.mk hA4; clear hA4)
          go_roundg f
          case measure => omega
          case rel => exact ⟨i + 1, by go_num, by omega, ⟨by rw [HSS2.out]; exact HA5.out.cl⟩⟩
    · obtain rfl : i = n := by omega
      have HST := Aside0.mk (stringF_any w.heap.size w.heap.size (setS l i) wr HC.out.build HC.out.below.size)
      have HBE := Aside0.mk HC.out.below
      go_wp2_with (go_at_call 55; (with_reducible refine HST.out.mono ?_); rintro e w9 ⟨rfl, hb⟩; have HB9 := Aside0.mk (HBE.out.trans hb); clear hb)
      go_ret
      exact ⟨rfl, HB9.out⟩
noncomputable def setR (l : List Tok) : ByteArray × Int := if (errL l).2 = 0 then tellF ⟨(setS l l.length).toArray⟩ l else (⟨#[]⟩, (errL l).2)
theorem setR_any (l : List Tok) (A : Option Addr) (c : Nat) (w : World) (ht : Pow w) (hl : l.length ≤ 1000000) (hz : ∀ t ∈ l, t.text.size ≤ 65536) (hT : SrcT A c l w) :
    Calls Tryz.prog 36 #[.slice A l.length c] w fun r w' => r = .returned (.tuple #[.string (setR l).1, .int .i64 (setR l).2]) ∧ Below w.heap.size w w' := by
  have h9 := fun W (hb : Below w.heap.size w W) => listError_any l A c W (ht.on hb) hl hz (by rcases hT.below hb with ⟨_, _, h⟩ | h; exact .inl h; exact .inr h)
  unfold setR
  by_cases h : (errL l).2 = 0
  · rw [if_pos h]
    obtain ⟨hg, hn⟩ := goodL_of hz h
    rw [h] at h9
    exact set_go l A c w hn hg hT.srcC _ (fun b hl1 hc1 v W hR hzz => set69_any l A c w hn hg b hl1 hc1 v W hR (hT.srcC.below hR.below) hzz) h9
  · rw [if_neg h]
    exact set_err _ A c w _ _ h h9
end Go.Proofs.YtfnhjdehlikbaaaGreatDoor.Lx
namespace Go.Proofs.YtfnhjdehlikbaaaGreatDoor.Lx
open Go.RowKit Go.Proofs.YtfnhjdehlikbaaaGreatDoorW.PrintWords
set_option maxRecDepth 100000 in
set_option maxHeartbeats 4000000 in
theorem refSet_err (n : Nat) (A : Option Addr) (c : Nat) (w : World) (i e : Int) (he : ¬ e = 0) (h : Calls Tryz.prog 108 #[.slice A n c] w fun r w' => r = .returned (.tuple #[.int .i64 i, .int .i64 e]) ∧ Below w.heap.size w w') :
    Calls Tryz.prog 76 #[.slice A n c] w fun r w' => r = .returned (.tuple #[.string ⟨#[]⟩, .int .i64 e]) ∧ Below w.heap.size w w' := by
  have HC := Aside0.mk h
  have he1 : (e == 0) = false := by rw [beq_eq_false_iff_ne]; exact he
  clear h
  go_enter Tryz.func76, Tryz.ntmps76
  go_wp2_with (go_at_call 108; (with_reducible refine HC.out.mono ?_); rintro e w1 ⟨rfl, hb⟩; have HB := Aside0.mk hb; clear hb)
  go_ret2
  exact ⟨rfl, HB.out⟩
set_option maxRecDepth 100000 in
set_option maxHeartbeats 16000000 in
theorem refSet_go (l : List Tok) (A : Option Addr) (c : Nat) (w : World) (hl : l.length ≤ 4000) (hg : GoodL l) (hT : SrcC A l w) (i9 : Int)
    (h : Calls Tryz.prog 108 #[.slice A l.length c] w fun r w' => r = .returned (.tuple #[.int .i64 i9, .int .i64 0]) ∧ Below w.heap.size w w') :
    Calls Tryz.prog 76 #[.slice A l.length c] w fun r w' => r = .returned (.tuple #[.string (tellF ⟨(setS l l.length).toArray⟩ l).1, .int .i64 (tellF ⟨(setS l l.length).toArray⟩ l).2]) ∧ Below w.heap.size w w' := by
  have HC := Aside0.mk h
  have HS := Aside0.mk hT
  have HG := Aside0.mk hg
  have HSA := Aside0.mk (fun (s : ByteArray) (W : World) (hb : Below w.heap.size w W) (hs : s.size ≤ 100000000) => refSame_any s l A c W hs (by omega) (hT.below hb))
  obtain ⟨n, hn⟩ : ∃ n, l.length = n := ⟨_, rfl⟩
  rw [hn] at hl HC HSA ⊢
  have HLG : Aside0 (∀ i m, i < n → m ≤ (pieceS l i).length → 65536 < (setS l i).length + m → tellF ⟨(setS l n).toArray⟩ l = (⟨#[]⟩, 11)) := ⟨fun i m hi hm h => tellF_long (by
    rw [setS_size]
    have h9 := setS_mono l (show i + 1 ≤ n by omega)
    rw [setS, List.length_append] at h9
    omega)⟩
  have HN := Aside0.mk hn
  have HR : Aside0 (∀ s : ByteArray, s.data.toList = setS l n → tellF s l = tellF ⟨(setS l n).toArray⟩ l) := ⟨fun s hs => by rw [ba_of hs]⟩
  clear h hT hn hg
  generalize tellF ⟨(setS l n).toArray⟩ l = R at HLG HR ⊢
  go_enter Tryz.func76, Tryz.ntmps76
  go_wp2_with (go_at_call 108; (with_reducible refine HC.out.mono ?_); rintro e w1 ⟨rfl, hb⟩; have HB := Aside0.mk hb; clear hb)
  go_loopg [6, 7, 8, 9] n (fun f t6 t7 t8 t9 wr => ∃ (i : Nat) (s : ByteArray) (ln cl : Int), t9 = .int .i64 (i : Int) ∧ t6 = .string s ∧ t7 = .int .i64 ln ∧ t8 = .int .i64 cl ∧ i + f = n ∧ s.size ≤ 131072 ∧ wr = w1 ∧ Aside0 (s.data.toList = setS l i ∧ ln = (prevT l i).line ∧ cl = (prevT l i).col + (prevT l i).text.size))
  case atStart => exact ⟨0, ⟨#[]⟩, 0, 0, rfl, rfl, rfl, rfl, by omega, by show (0 : Nat) ≤ 131072; omega, rfl, ⟨rfl, rfl, rfl⟩⟩
  case round =>
    obtain ⟨i, s, ln, cl, rfl, rfl, rfl, rfl, hif, hss, rfl, HD⟩ := hrel
    by_cases hi : i < n
    · obtain ⟨fo, rfl⟩ : ∃ f, gk = f + 1 := ⟨gk - 1, by omega⟩
      have hlt : i < l.length := by rw [HN.out]; exact hi
      have hi2 : (i : Int) < (n : Int) := by omega
      have hti := List.getElem?_eq_getElem hlt
      have hgd := HG.out i _ hti
      have hgc : l[i].text.size ≤ 65536 ∧ 0 ≤ l[i].col ∧ l[i].col ≤ 65536 ∧ 0 ≤ l[i].line ∧ l[i].line ≤ 65536 := ⟨hgd.sz, hgd.c0, hgd.c1, hgd.l0, hgd.l1⟩
      obtain ⟨p1, p2, p3, p4⟩ := gaps_good HG.out hlt
      have hga : gapA l i = l[i].line - ln := by unfold gapA; rw [hti, HD.out.2.1]; rfl
      have hgb : gapB l i = if l[i].line - ln = 0 then l[i].col - cl else l[i].col := by unfold gapB; rw [hga, hti, HD.out.2.2]; rfl
      have hps := prevT_succ hlt
      have hpc : pieceS l i = List.replicate (gapA l i).toNat 10 ++ List.replicate (gapB l i).toNat 32 ++ l[i].text.data.toList := by unfold pieceS; rw [hti]; rfl
      have hll := HLG.out i
      obtain ⟨g, rfl, q0, q1, q2, q3, q4, q5⟩ := (HS.out.below HB.out) i _ hti
      generalize l[i] = t at hgc hga hgb hps hpc q0 q1 q2 q3 q4 q5
      obtain ⟨tk, tn, tx, ta, tl, tc⟩ := t
      simp only at hgc hga hgb hpc q0 q1 q2 q3 q4 q5
      obtain ⟨ka, hka⟩ : ∃ k : Nat, gapA l i = (k : Int) := ⟨(gapA l i).toNat, by omega⟩
      obtain ⟨kb, hkb⟩ : ∃ k : Nat, gapB l i = (k : Int) := ⟨(gapB l i).toNat, by omega⟩
      rw [hka, hkb, Int.toNat_natCast, Int.toNat_natCast] at hpc
      have hs0 : s.size = (setS l i).length := by rw [← HD.out.1, len_data]
      have HLL : Aside0 (∀ m, m ≤ ka + kb → 65536 < s.size + m → R = (⟨#[]⟩, 11)) := ⟨fun m hm h => hll m hi (by rw [hpc, List.length_append, List.length_append, List.length_replicate, List.length_replicate]; omega) (by rw [← hs0]; exact h)⟩
      have HPC : Aside0 (setS l (i + 1) = setS l i ++ (List.replicate ka 10 ++ List.replicate kb 32 ++ tx.data.toList)) := ⟨by rw [setS, hpc]⟩
      have HPS := Aside0.mk hps
      rw [hka] at hga
      rw [hkb] at hgb
      have hta : tl = ln + (ka : Int) := by omega
      have hkc : (ka = 0 → tc = cl + (kb : Int)) ∧ (ka ≠ 0 → tc = (kb : Int)) := ⟨fun h => by rw [if_pos (by omega)] at hgb; omega, fun h => by rw [if_neg (by omega)] at hgb; omega⟩
      have HKC := Aside0.mk hkc
      obtain ⟨c0, c1, c2, c3, c4⟩ := hgc
      have HD1 := Aside0.mk HD.out.1
      have hcl0 : 0 ≤ cl ∧ cl ≤ 131072 := by
        obtain ⟨r1, r2, r3, r4, r5⟩ := prevT_le HG.out (show i ≤ l.length by omega)
        rw [HD.out.2.2]; omega
      have hln0 : -131072 ≤ ln ∧ ln ≤ 131072 := by omega
      rw [hka] at p3
      rw [hkb] at p4
      clear hti hlt hgd p1 p2 hga hgb hps hpc hll hka hkb hs0 hkc HD
      subst hta
      go_wp2
      go_loopg [6, 7, 8] (ka + 1) (fun f t6 t7 t8 wq => ∃ (j : Nat) (s1 : ByteArray) (x : Int), t6 = .string s1 ∧ t7 = .int .i64 (ln + (j : Int)) ∧ t8 = .int .i64 x ∧ j + f = ka + 1 ∧ j ≤ ka ∧ s1.size = s.size + j ∧ s1.size ≤ 131072 ∧ wq = wr ∧ Aside0 (s1.data.toList = setS l i ++ List.replicate j 10 ∧ (j = 0 → x = cl) ∧ (j ≠ 0 → x = 0)))
      case atStart => exact ⟨0, s, cl, rfl, by congr 1; omega, rfl, by omega, by omega, by omega, by omega, rfl, ⟨by rw [HD1.out]; simp, fun _ => rfl, fun h => absurd rfl h⟩⟩
      case round =>
        obtain ⟨j, s1, x, rfl, rfl, rfl, hjf, hjk, hs1, hs2, rfl, HJ⟩ := hrel
        by_cases hz1 : s1.size ≤ 65536
        · have z1 : (s1.size : Int) ≤ 65536 := by omega
          have z2 : decide ((s1.size : Int) ≤ 65536) = true := decide_eq_true z1
          by_cases hj : j < ka
          · obtain ⟨f, rfl⟩ : ∃ f, gk = f + 1 := ⟨gk - 1, by omega⟩
            have d1 : ln + (j : Int) < ln + (ka : Int) := by omega
            have d2 : decide (ln + (j : Int) < ln + (ka : Int)) = true := decide_eq_true d1
            have d3 : (j : Int) < (ka : Int) := by omega
            have hca : s1.size + 1 ≤ 140737488355328 := by omega
            have hcb : ¬ 140737488355328 < s1.size + 1 := by omega
            have hw : IntKind.i64.wrap (ln + (j : Int) + 1) = ln + (j : Int) + 1 := IntWalk.i64_in _ (by omega)
            go_wp2
            go_roundg f
            case measure => omega
            case rel => exact ⟨j + 1, _, 0, rfl, by congr 1; omega, rfl, by omega, by omega, by rw [ByteArray.size_append]; show s1.size + 1 = _; omega, by rw [ByteArray.size_append]; show s1.size + 1 ≤ _; omega, rfl, ⟨by rw [data_app, HJ.out.1, List.append_assoc, List.replicate_succ'], fun h => absurd h (by omega), fun _ => rfl⟩⟩
          · obtain rfl : j = ka := by omega
            have hx : tc = x + (kb : Int) := by
              by_cases h0 : j = 0
              · rw [HJ.out.2.1 h0]; exact HKC.out.1 h0
              · rw [HJ.out.2.2 h0, HKC.out.2 h0]; omega
            have hx0 : 0 ≤ x ∧ x ≤ 131072 := by
              by_cases h0 : j = 0
              · rw [HJ.out.2.1 h0]; exact hcl0
              · rw [HJ.out.2.2 h0]; omega
            have HJ1 := Aside0.mk HJ.out.1
            subst hx
            clear HJ HKC
            go_wp2
            go_loopg [6, 8] (kb + 1) (fun f t6 t8 wq => ∃ (k : Nat) (s2 : ByteArray), t6 = .string s2 ∧ t8 = .int .i64 (x + (k : Int)) ∧ k + f = kb + 1 ∧ k ≤ kb ∧ s2.size = s1.size + k ∧ s2.size ≤ 131072 ∧ wq = wr ∧ Aside0 (s2.data.toList = setS l i ++ (List.replicate j 10 ++ List.replicate k 32)))
            case atStart => exact ⟨0, s1, rfl, by congr 1; omega, by omega, by omega, by omega, by omega, rfl, ⟨by rw [HJ1.out]; simp⟩⟩
            case round =>
              obtain ⟨k, s2, rfl, rfl, hkf, hkk, hs3, hs4, rfl, HK⟩ := hrel
              by_cases hz2 : s2.size ≤ 65536
              · have y1 : (s2.size : Int) ≤ 65536 := by omega
                have y2 : decide ((s2.size : Int) ≤ 65536) = true := decide_eq_true y1
                have y3 : ¬ (65536 : Int) < (s2.size : Int) := by omega
                by_cases hk : k < kb
                · obtain ⟨f, rfl⟩ : ∃ f, gk = f + 1 := ⟨gk - 1, by omega⟩
                  have d1 : x + (k : Int) < x + (kb : Int) := by omega
                  have d2 : decide (x + (k : Int) < x + (kb : Int)) = true := decide_eq_true d1
                  have d3 : (k : Int) < (kb : Int) := by omega
                  have hca : s2.size + 1 ≤ 140737488355328 := by omega
                  have hcb : ¬ 140737488355328 < s2.size + 1 := by omega
                  have hw : IntKind.i64.wrap (x + (k : Int) + 1) = x + (k : Int) + 1 := IntWalk.i64_in _ (by omega)
                  go_wp2
                  go_roundg f
                  case measure => omega
                  case rel => exact ⟨k + 1, _, rfl, by congr 1; omega, by omega, by omega, by rw [ByteArray.size_append]; show s2.size + 1 = _; omega, by rw [ByteArray.size_append]; show s2.size + 1 ≤ _; omega, rfl, ⟨by rw [data_app, HK.out, List.append_assoc, List.append_assoc, List.replicate_succ' (n := k)]⟩⟩
                · obtain rfl : k = kb := by omega
                  have hca : s2.size + tx.size ≤ 140737488355328 := by omega
                  have hcb : ¬ 140737488355328 < s2.size + tx.size := by omega
                  have hw : IntKind.i64.wrap (x + (k : Int) + (tx.size : Int)) = x + (k : Int) + (tx.size : Int) := IntWalk.i64_in _ (by omega)
                  go_wp2
                  go_roundg fo
                  case measure => omega
                  case rel => exact ⟨i + 1, _, _, _, by go_num, rfl, rfl, rfl, by omega, by rw [ByteArray.size_append]; omega, rfl, ⟨by rw [data_app, HK.out, HPC.out]; simp, by rw [HPS.out], by rw [HPS.out]⟩⟩
              · have y1 : ¬ (s2.size : Int) ≤ 65536 := by omega
                have y2 : decide ((s2.size : Int) ≤ 65536) = false := decide_eq_false y1
                have y3 : (65536 : Int) < (s2.size : Int) := by omega
                have HX := Aside0.mk (HLL.out (j + k) (by omega) (by omega))
                by_cases hk : k < kb
                · have d1 : x + (k : Int) < x + (kb : Int) := by omega
                  have d2 : decide (x + (k : Int) < x + (kb : Int)) = true := decide_eq_true d1
                  have d3 : (k : Int) < (kb : Int) := by omega
                  go_wp2
                  go_ret2
                  rw [HX.out]
                  exact ⟨rfl, HB.out⟩
                · obtain rfl : k = kb := by omega
                  go_wp2
                  go_ret2
                  rw [HX.out]
                  exact ⟨rfl, HB.out⟩
        · have z1 : ¬ (s1.size : Int) ≤ 65536 := by omega
          have z2 : decide ((s1.size : Int) ≤ 65536) = false := decide_eq_false z1
          have z3 : (65536 : Int) < (s1.size : Int) := by omega
          have HX := Aside0.mk (HLL.out j (by omega) (by omega))
          by_cases hj : j < ka
          · have d1 : ln + (j : Int) < ln + (ka : Int) := by omega
            have d2 : decide (ln + (j : Int) < ln + (ka : Int)) = true := decide_eq_true d1
            have d3 : (j : Int) < (ka : Int) := by omega
            go_wp2
            go_loopg [6, 8] 1 (fun f t6 t8 wq => t6 = .string s1 ∧ t8 = .int .i64 x ∧ wq = wr)
            case atStart => exact ⟨rfl, rfl, rfl⟩
            case round =>
              obtain ⟨rfl, rfl, rfl⟩ := hrel
              by_cases hc : x < tc
              · have e1 : decide (x < tc) = true := decide_eq_true hc
                go_wp2
                go_ret2
                rw [HX.out]
                exact ⟨rfl, HB.out⟩
              · have e1 : decide (x < tc) = false := decide_eq_false hc
                go_wp2
                go_ret2
                rw [HX.out]
                exact ⟨rfl, HB.out⟩
          · obtain rfl : j = ka := by omega
            go_wp2
            go_loopg [6, 8] 1 (fun f t6 t8 wq => t6 = .string s1 ∧ t8 = .int .i64 x ∧ wq = wr)
            case atStart => exact ⟨rfl, rfl, rfl⟩
            case round =>
              obtain ⟨rfl, rfl, rfl⟩ := hrel
              by_cases hc : x < tc
              · have e1 : decide (x < tc) = true := decide_eq_true hc
                go_wp2
                go_ret2
                rw [HX.out]
                exact ⟨rfl, HB.out⟩
              · have e1 : decide (x < tc) = false := decide_eq_false hc
                go_wp2
                go_ret2
                rw [HX.out]
                exact ⟨rfl, HB.out⟩
    · obtain rfl : i = n := by omega
      have HX := Aside0.mk (HSA.out s _ HB.out (by omega))
      have hrr := HR.out s HD.out.1
      rw [hrr] at HX
      clear hrr
      go_wp2_with (go_at_call 114; (with_reducible refine HX.out.mono ?_); rintro e w9 ⟨rfl, hb⟩; have HB9 := Aside0.mk (HB.out.trans (hb.mono HB.out.size)); clear hb)
      go_ret2
      exact ⟨rfl, HB9.out⟩
theorem refSetR_any (l : List Tok) (A : Option Addr) (c : Nat) (w : World) (hl : l.length ≤ 1000000) (hz : ∀ t ∈ l, t.text.size ≤ 65536) (hT : SrcC A l w) :
    Calls Tryz.prog 76 #[.slice A l.length c] w fun r w' => r = .returned (.tuple #[.string (setR l).1, .int .i64 (setR l).2]) ∧ Below w.heap.size w w' := by
  have h9 := refRight_all l A c w hl hz hT
  unfold setR
  by_cases h : (errL l).2 = 0
  · rw [if_pos h]
    obtain ⟨hg, hn⟩ := goodL_of hz h
    rw [h] at h9
    exact refSet_go l A c w hn hg hT _ h9
  · rw [if_neg h]
    exact refSet_err _ A c w _ _ h h9
end Go.Proofs.YtfnhjdehlikbaaaGreatDoor.Lx
namespace Go.Proofs.YtfnhjdehlikbaaaGreatDoor.Lx
open Go.RowKit Go.Proofs.YtfnhjdehlikbaaaGreatDoorW.PrintWords
def SrcG (A : Option Addr) (l : List Tok) (W : World) : Prop := ∀ (i : Nat) t, l[i]? = some t → ∃ g o, A = some ⟨g, o, none⟩ ∧ g < W.heap.size ∧
  W.cell? ⟨g, o + i * 6, none⟩ = some (.int .i64 t.kind) ∧ W.cell? ⟨g, o + i * 6 + 1, none⟩ = some (.int .i64 t.num) ∧ W.cell? ⟨g, o + i * 6 + 2, none⟩ = some (.string t.text) ∧ W.cell? ⟨g, o + i * 6 + 3, none⟩ = some (.int .i64 t.at_) ∧ W.cell? ⟨g, o + i * 6 + 4, none⟩ = some (.int .i64 t.line) ∧ W.cell? ⟨g, o + i * 6 + 5, none⟩ = some (.int .i64 t.col)
theorem SrcG.below {A : Option Addr} {l : List Tok} {W W' : World} (h : SrcG A l W) (hb : Below W.heap.size W W') : SrcG A l W' := by
  intro i t ht
  obtain ⟨g, o, hA, hlt, h0, h1, h2, h3, h4, h5⟩ := h i t ht
  have key : ∀ k, W'.cell? ⟨g, k, none⟩ = W.cell? ⟨g, k, none⟩ := fun k => hb.cell (p := ⟨g, k, none⟩) hlt
  exact ⟨g, o, hA, Nat.lt_of_lt_of_le hlt hb.size, (key _).trans h0, (key _).trans h1, (key _).trans h2, (key _).trans h3, (key _).trans h4, (key _).trans h5⟩
structure OurAt (w : World) (l : List Tok) (v : Value) (W : World) : Prop where
  own : W.ownsRow w.heap.size 121 6 v l.length (flat l)
  below : Below w.heap.size w W
set_option maxRecDepth 100000 in
set_option maxHeartbeats 8000000 in
theorem ours_any (l : List Tok) (A : Option Addr) (c : Nat) (w : World) (hl : l.length ≤ 100000) (hT : SrcG A l w) :
    Calls Tryz.prog 75 #[.slice A l.length c] w fun e w' => ∃ O c', e = .returned (.slice O l.length c') ∧ l.length ≤ c' ∧ SrcC O l w' ∧ Below w.heap.size w w' := by
  obtain ⟨i0, hi, hz0, hz1, hz2⟩ := info_parts info121
  have HI := Aside0.mk hi; clear hi
  have HZ0 := Aside0.mk hz0; clear hz0
  have HZ1 := Aside0.mk hz1; clear hz1
  have HZ2 := Aside0.mk hz2; clear hz2
  have HSR := Aside0.mk hT; clear hT
  obtain ⟨n, hn⟩ : ∃ n, l.length = n := ⟨_, rfl⟩
  rw [hn] at hl ⊢
  have HN := Aside0.mk hn; clear hn
  have hn0 : (0 : Int) ≤ (n : Int) := by omega
  go_enter Tryz.func75, Tryz.ntmps75
  go_wp2
  go_loopg [8, 3] n (fun f t8 t3 wr => ∃ (i : Nat) (A' : Option Addr) (c' : Nat), t8 = .int .i64 (i : Int) ∧ t3 = .slice A' i c' ∧ i + f = n ∧ Aside0 (OurAt w (l.take i) (.slice A' i c') wr))
  case atStart => exact ⟨0, none, 0, rfl, rfl, by omega, ⟨World.ownsRow_nil _ _ _ _, Below.refl _ _⟩⟩
  case round =>
    obtain ⟨i, A', c', rfl, rfl, hif, hA⟩ := hrel
    by_cases hi : i < n
    · cases gk with
      | zero => omega
      | succ f =>
        have hlt : i < l.length := by rw [HN.out]; exact hi
        have hti := List.getElem?_eq_getElem hlt
        obtain ⟨g, o, hAg, hab, q0, q1, q2, q3, q4, q5⟩ := (HSR.out.below hA.out.below) i _ hti
        have hxs : l.take (i + 1) = l.take i ++ [l[i]] := List.take_succ_eq_append_getElem hlt
        have hli : (l.take i).length = i := by rw [List.length_take, Nat.min_eq_left (by omega)]
        generalize l[i] = t at q0 q1 q2 q3 q4 q5 hxs
        have HXS := Aside0.mk hxs
        have HLI := Aside0.mk hli
        have hown := hA.out.own
        rw [hli] at hown
        have HOW := Aside0.mk hown
        have HBE := Aside0.mk hA.out.below
        have hsz := hA.out.below.size
        subst hAg
        obtain ⟨tk, tn, tx, ta, tl, tc⟩ := t
        simp only at q0 q1 q2 q3 q4 q5
        clear hti hlt hxs hli hown hA
        go_wp2_with (at_builtin; refine wpList_append_own_at _ rfl _ _ 68 rfl w.heap.size 121 i0 _ 6 56 Tryz.underlying68 HI.out HZ0.out HZ1.out HZ2.out rfl (by decide) (.slice A' i c') i (flat (l.take i)) rfl ((HOW.out.alloc _).alloc _) ⟨wr.heap.size + 1, 0, none⟩ 1 1 [.int .i64 tk, .int .i64 tn, .string tx, .int .i64 ta, .int .i64 tl, .int .i64 tc] rfl rfl (by intro j u h; have := cells_new (wr.alloc (.cells #[.int .i64 tk, .int .i64 tn, .string tx, .int .i64 ta, .int .i64 tl, .int .i64 tc] 54)) #[.int .i64 tk, .int .i64 tn, .string tx, .int .i64 ta, .int .i64 tl, .int .i64 tc] 121 j u h; rwa [show (wr.alloc (.cells #[.int .i64 tk, .int .i64 tn, .string tx, .int .i64 ta, .int .i64 tl, .int .i64 tc] 54)).heap.size = wr.heap.size + 1 by simp] at this) (by simp [Value.oneCell']) (by unfold maxLen; omega) (by omega) (by simp; omega) ?_; intro v' w3 hown' hgrow _ hat; obtain ⟨g', cap', rfl⟩ := ownsRow_succ hown'; have HO := Aside0.mk hown'; have HG := Aside0.mk hgrow; clear hown' hgrow hat)
        go_roundg f
        case measure => omega
        case rel =>
          refine ⟨i + 1, _, _, by go_num, rfl, by omega, ⟨?_, ?_⟩⟩
          · rw [HXS.out, flat_snoc, List.length_append, HLI.out]
            exact HO.out
          · exact ((HBE.out.alloc hsz _).alloc (by simp; omega) _).grown HG.out (by simp; omega) (fun k hk => own_base HOW.out k hk)
    · obtain rfl : i = n := by omega
      have htk : l.take i = l := List.take_of_length_le (by rw [HN.out]; exact Nat.le_refl _)
      have hA2 := hA.out
      rw [htk] at hA2
      have HA2 := Aside0.mk hA2
      clear hA htk hA2
      go_wp2
      go_ret
      obtain ⟨O, c2, he, hc2, hs2⟩ := srcC_of_own HA2.out.own
      rw [HN.out] at he hc2
      injection he with he1 _ he3
      subst he1 he3
      exact ⟨_, _, rfl, hc2, hs2, HA2.out.below⟩
end Go.Proofs.YtfnhjdehlikbaaaGreatDoor.Lx
namespace Go.Proofs.YtfnhjdehlikbaaaGreatDoor.Lx
open Go.RowKit Go.Proofs.YtfnhjdehlikbaaaGreatDoorW.PrintWords
theorem srcG_flat {A : Option Addr} {l : List Tok} {W : World} (h : SrcG A l W) : ∀ j u, (flat l)[j]? = some u → ∃ b o, A = some ⟨b, o, none⟩ ∧ b < W.heap.size ∧ W.cell? ⟨b, o + j, none⟩ = some u := by
  intro j u hj
  have hlt : j < (flat l).length := (List.getElem?_eq_some_iff.1 hj).1
  rw [flat_len] at hlt
  have hi : j / 6 < l.length := by omega
  have ht := List.getElem?_eq_getElem hi
  have hm : j % 6 < 6 := Nat.mod_lt _ (by omega)
  have e : j = j / 6 * 6 + j % 6 := by omega
  rw [e, flat_at l _ _ _ ht hm] at hj
  obtain ⟨g, o, hg, hb, q0, q1, q2, q3, q4, q5⟩ := h _ _ ht
  refine ⟨g, o, hg, hb, ?_⟩
  rw [e]
  generalize l[j / 6] = t at hj q0 q1 q2 q3 q4 q5
  generalize j / 6 * 6 = b at *
  generalize j % 6 = r at *
  rcases r with _ | _ | _ | _ | _ | _ | r
  · rw [Nat.add_zero]; rw [q0, ← hj]; rfl
  · rw [← Nat.add_assoc, q1, ← hj]; rfl
  · rw [← Nat.add_assoc, q2, ← hj]; rfl
  · rw [← Nat.add_assoc, q3, ← hj]; rfl
  · rw [← Nat.add_assoc, q4, ← hj]; rfl
  · rw [← Nat.add_assoc, q5, ← hj]; rfl
  · omega
set_option maxRecDepth 100000 in
set_option maxHeartbeats 8000000 in
theorem cloneG_some (l : List Tok) (a : Addr) (c : Nat) (w : World) (hl : l.length ≤ 1000000) (h : SrcG (some a) l w) :
    Calls Tryz.prog 62 #[.slice (some a) l.length c] w fun e w' => ∃ v, e = .returned v ∧ w'.ownsRow w.heap.size 54 6 v l.length (flat l) ∧ Below w.heap.size w w' := by
  obtain ⟨i0, hi, hz0, hz1, hz2⟩ := info_parts info54
  have HI := Aside0.mk hi; clear hi
  have HZ0 := Aside0.mk hz0; clear hz0
  have HZ1 := Aside0.mk hz1; clear hz1
  have HZ2 := Aside0.mk hz2; clear hz2
  have hold : ∀ j u, (flat l)[j]? = some u → (w.alloc (.cells #[] 54)).cell? (a.add j) = some u := fun j u hj => by
    obtain ⟨b, o, ha, hb, h1⟩ := srcG_flat h j u hj
    injection ha with ha
    subst ha
    rw [show (⟨b, o, none⟩ : Addr).add j = ⟨b, o + j, none⟩ by unfold Addr.add; split <;> simp_all]
    exact (((Below.refl _ w).alloc (Nat.le_refl _) _).cell (p := ⟨b, o + j, none⟩) hb).trans h1
  have HO := Aside0.mk hold
  have HL := Aside0.mk (flat_len l)
  have H1 := Aside0.mk (flat_one l)
  obtain ⟨n, hn⟩ : ∃ n, l.length = n := ⟨_, rfl⟩
  have HN := Aside0.mk hn
  rw [hn] at hl ⊢
  have heq := fun W => Lib.run_eql_slice_nil (P := Tryz.prog) W 34 54 (some a) n c 0 0 Tryz.underlying34
  clear h hold hn
  go_enter Tryz.func62, Tryz.ntmps62
  go_wp2_with (at_builtin; refine wpList_append_own_at _ rfl _ _ 34 rfl w.heap.size 54 i0 _ 6 56 Tryz.underlying34 HI.out HZ0.out HZ1.out HZ2.out rfl (by decide) (.slice (some ⟨w.heap.size, 0, none⟩) 0 0) 0 [] rfl (own_empty54 w _ (Nat.le_refl _)) a n c (flat l) rfl (by rw [HL.out, HN.out]) HO.out H1.out (by unfold maxLen; omega) (by omega) (by simp) ?_; intro v' w3 hown' hgrow _ hat; have HW := Aside0.mk hown'; have HG := Aside0.mk hgrow; clear hown' hgrow hat)
  go_ret
  refine ⟨_, rfl, ?_, ?_⟩
  · have ho := HW.out
    rw [List.nil_append, Nat.zero_add] at ho
    exact ho
  · exact ((Below.refl _ w).alloc (Nat.le_refl _) _).grown HG.out (by simp) (fun k hk => by injection hk with hk; rw [← hk]; exact Nat.le_refl _)
set_option maxRecDepth 100000 in
theorem clone_none (w : World) : Calls Tryz.prog 62 #[.slice none 0 0] w fun e w' => e = .returned (.slice none 0 0) ∧ Below w.heap.size w w' := by
  have heq := fun W => Lib.run_eql_slice_nil (P := Tryz.prog) W 34 54 none 0 0 0 0 Tryz.underlying34
  go_enter Tryz.func62, Tryz.ntmps62
  go_wp2
  go_ret
  exact ⟨rfl, Below.refl _ _⟩
theorem cloneG_any (l : List Tok) (A : Option Addr) (c : Nat) (w : World) (hl : l.length ≤ 1000000) (h : SrcG A l w) (hA : A = none → l = [] ∧ c = 0) :
    Calls Tryz.prog 62 #[.slice A l.length c] w fun e w' => ∃ M c', e = .returned (.slice M l.length c') ∧ l.length ≤ c' ∧ SrcT M c' l w' ∧ Below w.heap.size w w' := by
  cases A with
  | none =>
    obtain ⟨rfl, rfl⟩ := hA rfl
    exact (clone_none w).mono fun e w' ⟨he, hb⟩ => ⟨none, 0, he, Nat.le_refl _, .inl ⟨rfl, rfl, rfl⟩, hb⟩
  | some a =>
    exact (cloneG_some l a c w hl h).mono fun e w' ⟨v, he, ho, hb⟩ => by
      have hR : Kd.R kTok 54 w' w.heap.size (fun _ => True) v l := ⟨fun _ _ => trivial, flat l, ho, reps_flat _ _ _ _⟩
      obtain ⟨M, c', rfl, hT⟩ := srcT_of_R hR
      obtain ⟨M2, c2, hv2, hc2, _⟩ := Kd.R_reads hR
      injection hv2 with e1 e2 e3
      subst e1 e3
      exact ⟨M, c', he, hc2, hT, hb⟩
def farN (n : Int) : Bool := decide (n > 2000) && decide (n ≤ 65536)
def offT (t : Tok) : Bool := decide ((t.text.size : Int) > 60) || (farN t.line || farN t.col)
set_option maxRecDepth 100000 in
theorem farN_any (n : Int) (w : World) : Calls Tryz.prog 71 #[.int .i64 n] w fun e w' => e = .returned (.bool (farN n)) ∧ w' = w := by
  unfold farN
  by_cases h : n > 2000
  · have h1 : decide (n > 2000) = true := decide_eq_true h
    have h2 : decide (2000 < n) = true := decide_eq_true h
    go_enter Tryz.func71, Tryz.ntmps71
    go_wp2
    go_ret
    simp [h]
  · have h1 : decide (n > 2000) = false := decide_eq_false h
    have h2 : decide (2000 < n) = false := decide_eq_false h
    go_enter Tryz.func71, Tryz.ntmps71
    go_wp2
    go_ret
    simp [h]
set_option maxRecDepth 100000 in
set_option maxHeartbeats 8000000 in
theorem equalG_any (l : List Tok) (hl : l.length ≤ 1000000) (A0 A1 : Option Addr) (c0 c1 : Nat) (w : World) (h0 : SrcC A0 l w) (hc0 : l.length ≤ c0) (h1 : SrcG A1 l w) (hc1 : l.length ≤ c1) :
    Calls Tryz.prog 29 #[.slice A0 l.length c0, .slice A1 l.length c1] w fun e w' => e = .returned (.bool true) ∧ Below w.heap.size w w' := by
  have HS0 := Aside0.mk h0
  have HS1 := Aside0.mk h1
  clear h0 h1
  obtain ⟨n, hn⟩ : ∃ n, l.length = n := ⟨_, rfl⟩
  rw [hn] at hl hc0 hc1 ⊢
  have HN := Aside0.mk hn; clear hn
  have c3b0 : ((n : Int) == (n : Int)) = true := beq_self_eq_true _
  have c3b1 : ((n : Int) != (n : Int)) = false := bne_self_eq_false _
  go_enter Tryz.func29, Tryz.ntmps29
  go_wp2
  repeat (go_quiet (fail); try go_wp2)
  go_loopg [13] n (fun f t13 wr => ∃ (i : Nat), t13 = .int .i64 (i : Int) ∧ i + f = n ∧ Aside0 (Below w.heap.size w wr))
  case atStart => exact ⟨0, rfl, by omega, ⟨Below.refl _ _⟩⟩
  case round =>
    obtain ⟨i, rfl, hif, hB⟩ := hrel
    have HB := Aside0.mk hB.out
    clear hB
    by_cases hi : i < n
    · cases gk with
      | zero => omega
      | succ f =>
        have hlt : i < l.length := by rw [HN.out]; exact hi
        have hti := List.getElem?_eq_getElem hlt
        obtain ⟨g0, e0, x0, x1, x2, x3, x4, x5⟩ := (HS0.out.below HB.out) i _ hti
        obtain ⟨g1, o1, e1, hg1, y0, y1, y2, y3, y4, y5⟩ := (HS1.out.below HB.out) i _ hti
        subst e0 e1
        generalize l[i] = t at x0 x1 x2 x3 x4 x5 y0 y1 y2 y3 y4 y5
        obtain ⟨tk, tn, tx, ta, tl, tc⟩ := t
        simp only at x0 x1 x2 x3 x4 x5 y0 y1 y2 y3 y4 y5
        have c8b0 : (!(tk == tk) || (!(tn == tn) || (!(tx.toList == tx.toList) || (!(ta == ta) || (!(tl == tl) || (!(tc == tc))))))) = false := by simp
        have hi2 : (i : Int) < (n : Int) := by omega
        clear hti hlt
        go_wp2
        repeat (go_quiet (fail); try go_wp2)
        go_roundg f
        case measure => omega
        case rel => exact ⟨i + 1, by go_num, by omega, by first | exact HB | exact ⟨HB.out.trans ((bdrewN _ _).mono HB.out.size)⟩⟩
    · obtain rfl : i = n := by omega
      go_wp2
      repeat (go_quiet (fail); try go_wp2)
      go_ret
      exact ⟨rfl, HB.out⟩
end Go.Proofs.YtfnhjdehlikbaaaGreatDoor.Lx
namespace Go.Proofs.YtfnhjdehlikbaaaGreatDoor.Lx
open Go.RowKit Go.Proofs.YtfnhjdehlikbaaaGreatDoorW.PrintWords
set_option maxRecDepth 100000 in
set_option maxHeartbeats 4000000 in
theorem off73_any (t : Tok) (b : Nat) (w : World) (h : w.heap[b]? = some (.cells #[.func (.func 71) #[] #[]] 43)) :
    Calls Tryz.prog 73 #[.agg t.cells, .pointer (some ⟨b, 0, none⟩)] w fun e w' => e = .returned (.bool (offT t)) ∧ Below w.heap.size w w' := by
  have HF1 := Aside0.mk (fun W => farN_any t.line W)
  have HF2 := Aside0.mk (fun W => farN_any t.col W)
  have c0 : w.cell? ⟨b, 0, none⟩ = some (.func (.func 71) #[] #[]) := cell_of h 0
  have hb := heap_lt h
  unfold offT
  obtain ⟨tk, tn, tx, ta, tl, tc⟩ := t
  simp only [Tok.cells] at *
  generalize farN tl = x at *
  generalize farN tc = y at *
  clear h
  by_cases h : (tx.size : Int) > 60
  · have h1 : decide ((tx.size : Int) > 60) = true := decide_eq_true h
    have h2 : decide (60 < (tx.size : Int)) = true := decide_eq_true h
    go_enter Tryz.func73, Tryz.ntmps73
    go_wp2
    go_ret
    exact ⟨by rw [h1]; rfl, (Below.refl _ w).alloc (Nat.le_refl _) _⟩
  · have h1 : decide ((tx.size : Int) > 60) = false := decide_eq_false h
    have h2 : decide (60 < (tx.size : Int)) = false := decide_eq_false h
    have HH := Aside0.mk h1
    cases x with
    | true =>
      go_enter Tryz.func73, Tryz.ntmps73
      go_wp2_with (go_at_call 71; (with_reducible refine (HF1.out _).mono ?_); rintro e w1 ⟨rfl, rfl⟩)
      go_ret
      exact ⟨by rw [HH.out]; rfl, (Below.refl _ w).alloc (Nat.le_refl _) _⟩
    | false =>
      go_enter Tryz.func73, Tryz.ntmps73
      go_wp2_with (first | (go_at_call 71; (with_reducible refine (HF1.out _).mono ?_); rintro e w1 ⟨rfl, rfl⟩) | (go_at_call 71; (with_reducible refine (HF2.out _).mono ?_); rintro e w1 ⟨rfl, rfl⟩))
      go_ret
      exact ⟨by rw [HH.out]; rfl, (Below.refl _ w).alloc (Nat.le_refl _) _⟩
set_option maxRecDepth 100000 in
set_option maxHeartbeats 4000000 in
theorem index105_any (l : List Tok) (A : Option Addr) (c b : Nat) (w : World) (hl : l.length ≤ 1000000) (hT : SrcG A l w) (h : w.heap[b]? = some (.cells #[.func (.func 71) #[] #[]] 43)) :
    Calls Tryz.prog 105 #[.slice A l.length c, .func (.func 73) #[] #[.pointer (some ⟨b, 0, none⟩)]] w fun e w' => (∃ r, e = .returned (.int .i64 r) ∧ (0 ≤ r ↔ l.any offT = true)) ∧ Below w.heap.size w w' := by
  have HS := Aside0.mk hT
  have HX := Aside0.mk h
  obtain ⟨n, hn⟩ : ∃ n, l.length = n := ⟨_, rfl⟩
  rw [hn] at hl ⊢
  have HN := Aside0.mk hn
  clear hT h hn
  go_enter Tryz.func105, Tryz.ntmps105
  go_wp2
  go_loopg [8] n (fun f t8 wr => ∃ i : Nat, t8 = .int .i64 (i : Int) ∧ i + f = n ∧ Aside0 (Below w.heap.size w wr ∧ ∀ (k : Nat) t, k < i → l[k]? = some t → offT t = false))
  case atStart => exact ⟨0, rfl, by omega, ⟨Below.refl _ _, fun k t hk => absurd hk (Nat.not_lt_zero k)⟩⟩
  case round =>
    obtain ⟨i, rfl, hif, hA⟩ := hrel
    have HB := Aside0.mk hA.out.1
    have HE := Aside0.mk hA.out.2
    clear hA
    by_cases hi : i < n
    · obtain ⟨f, rfl⟩ : ∃ f, gk = f + 1 := ⟨gk - 1, by omega⟩
      have hlt : i < l.length := by rw [HN.out]; exact hi
      have hi2 : (i : Int) < (n : Int) := by omega
      have hti := List.getElem?_eq_getElem hlt
      obtain ⟨g, o, rfl, hgw, q0, q1, q2, q3, q4, q5⟩ := (HS.out.below HB.out) i _ hti
      have HO := Aside0.mk (off73_any l[i] b wr ((HB.out.block _ (heap_lt HX.out)).trans HX.out))
      generalize l[i] = t at hti HO q0 q1 q2 q3 q4 q5
      have HTI := Aside0.mk hti
      obtain ⟨v, hv⟩ : ∃ v, offT t = v := ⟨_, rfl⟩
      rw [hv] at HO
      have HV := Aside0.mk hv
      obtain ⟨tk, tn, tx, ta, tl, tc⟩ := t
      simp only [Tok.cells] at HO q0 q1 q2 q3 q4 q5
      clear hti hlt hv
      cases v with
      | true =>
        go_wp2_with (go_at_call 73; (with_reducible refine HO.out.mono ?_); rintro e w1 ⟨rfl, hb⟩; have HB1 := Aside0.mk hb; clear hb)
        go_ret
        refine ⟨⟨_, rfl, ?_⟩, HB.out.trans (HB1.out.mono HB.out.size)⟩
        exact ⟨fun _ => List.any_eq_true.2 ⟨_, List.mem_of_getElem? HTI.out, HV.out⟩, fun _ => by omega⟩
      | false =>
        go_wp2_with (go_at_call 73; (with_reducible refine HO.out.mono ?_); rintro e w1 ⟨rfl, hb⟩; have HB1 := Aside0.mk hb; clear hb)
        go_roundg f
        case measure => omega
        case rel =>
          refine ⟨i + 1, by go_num, by omega, ⟨HB.out.trans (HB1.out.mono HB.out.size), fun k t hk ht => ?_⟩⟩
          by_cases hki : k = i
          · subst hki
            rw [HTI.out] at ht
            injection ht with ht
            rw [← ht]
            exact HV.out
          · exact HE.out k t (by omega) ht
    · obtain rfl : i = n := by omega
      go_wp2
      go_ret
      refine ⟨⟨_, rfl, ?_⟩, HB.out⟩
      refine ⟨fun h => absurd h (by decide), fun h => ?_⟩
      obtain ⟨t, ht, ho⟩ := List.any_eq_true.1 h
      obtain ⟨k, hk, rfl⟩ := List.getElem_of_mem ht
      have h9 := HE.out k _ (by rw [HN.out] at hk; exact hk) (List.getElem?_eq_getElem hk)
      rw [h9] at ho
      cases ho
set_option maxRecDepth 100000 in
theorem contains72_any (l : List Tok) (A : Option Addr) (c b : Nat) (w : World) (hl : l.length ≤ 1000000) (hT : SrcG A l w) (h : w.heap[b]? = some (.cells #[.func (.func 71) #[] #[]] 43)) :
    Calls Tryz.prog 72 #[.slice A l.length c, .func (.func 73) #[] #[.pointer (some ⟨b, 0, none⟩)]] w fun e w' => e = .returned (.bool (l.any offT)) ∧ Below w.heap.size w w' := by
  have HI := Aside0.mk (index105_any l A c b w hl hT h)
  generalize l.length = n at HI ⊢
  clear hl hT h
  go_enter Tryz.func72, Tryz.ntmps72
  go_wp2_with (go_at_call 105; (with_reducible refine HI.out.mono ?_); rintro e w1 ⟨⟨r, rfl, hr⟩, hb⟩; have HR := Aside0.mk hr; have HB := Aside0.mk hb; clear hb hr)
  go_ret
  refine ⟨?_, HB.out⟩
  congr 2
  by_cases h : 0 ≤ r
  · rw [HR.out.1 h]; simp; omega
  · have h9 : l.any offT = false := by
      cases h8 : l.any offT with
      | false => rfl
      | true => exact absurd (HR.out.2 h8) h
    rw [h9]; simp; omega
end Go.Proofs.YtfnhjdehlikbaaaGreatDoor.Lx
