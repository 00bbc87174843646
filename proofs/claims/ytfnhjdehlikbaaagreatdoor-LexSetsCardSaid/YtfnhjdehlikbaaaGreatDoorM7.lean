import Derived.Test.YtfnhjdehlikbaaaGreatDoorM5
import Derived.Test.YtfnhjdehlikbaaaGreatDoorM4
set_option linter.unusedVariables false
set_option linter.unusedSimpArgs false
/- The reference's right (108): the error of a list of raw tokens, in plain words; none for tokens as they come out of a text. -/
namespace Go.Proofs.YtfnhjdehlikbaaaGreatDoor.Lx
open Go.RowKit Go.Proofs.YtfnhjdehlikbaaaGreatDoorW.PrintWords

/-- A Text that is cut as a token of a Kind with a Num, whole and right. -/
def cutB (k n : Int) (s : ByteArray) : Bool :=
  decide (0 < s.size) && (decide (kindOf (bt s 0) ≠ 0) && (decide ((nextOf s 0 (kindOf (bt s 0))).2 < 0) && (decide ((nextOf s 0 (kindOf (bt s 0))).1.kind = k) && ((nextOf s 0 (kindOf (bt s 0))).1.text.toList == s.toList && decide ((nextOf s 0 (kindOf (bt s 0))).1.num = n)))))

/-- The error of a raw token behind another one, if there is one. -/
def ranT (t : Tok) : Bool := decide (t.kind < 1) || (decide (t.kind > 4) || (decide (t.at_ < 0) || (decide (t.at_ > 65536) || (decide (t.line < 0) || (decide (t.line > 65536) || (decide (t.col < 0) || decide (t.col > 65536)))))))
def ordT (b t : Tok) : Bool := decide (t.line < b.line) || ((decide (t.line = b.line) && decide (t.col < b.col + b.text.size)) || decide (t.at_ < b.at_ + b.text.size))
def errT (b : Option Tok) (t : Tok) : Int :=
  if ranT t = true then 3 else if cutB t.kind t.num t.text = true then (match b with | none => 0 | some b => if ordT b t = true then 15 else 0) else 4
def errG (l : List Tok) : Nat → Nat → Int × Int
  | 0, _ => (0, 0)
  | n + 1, i => if errT (if i = 0 then none else l[i - 1]?) (l[i]?.getD tokZ) = 0 then errG l n (i + 1) else ((i : Int), errT (if i = 0 then none else l[i - 1]?) (l[i]?.getD tokZ))
/-- The error of raw tokens, and the number of the one that has it. -/
def errL (l : List Tok) : Int × Int := if 4000 < l.length then (0, 2) else errG l l.length 0

/-- A number's numeral has no zero in front. -/
theorem decDigits_head : ∀ (m u : Nat), u ≤ m → ∀ b, (Lib.decDigits u).head? = some b → b.toNat ≠ 48 ∨ u < 10 := by
  intro m
  induction m with
  | zero => intro u hu b _; exact .inr (by omega)
  | succ m ih =>
    intro u hu b hb
    by_cases h : u < 10
    · exact .inr h
    · left
      rw [Lib.decDigits, dif_neg h] at hb
      have hne : Lib.decDigits (u / 10) ≠ [] := by
        rw [Lib.decDigits]
        split <;> simp
      have hb2 : (Lib.decDigits (u / 10)).head? = some b := by
        cases hd : Lib.decDigits (u / 10) with
        | nil => exact absurd hd hne
        | cons a q =>
          rw [hd] at hb
          simpa using hb
      rcases ih (u / 10) (by omega) b hb2 with h1 | h1
      · exact h1
      · rw [Lib.decDigits, dif_pos h1] at hb2
        simp at hb2
        rw [← hb2]
        simp
        omega

theorem kws_cut : ∀ x ∈ kws, cutB 4 0 x = true := by decide +kernel
theorem sgs_cut : ∀ x ∈ sgs, cutB 3 0 x = true := by decide +kernel

theorem nextOf_whole (s : ByteArray) (n : Int) (hn : n = s.size) : s.extract (0 : Int).toNat (0 + n).toNat = s := by
  subst hn
  have e : (0 + (s.size : Int)).toNat = s.size := by omega
  rw [e]
  show s.extract 0 s.size = s
  simp

theorem cutB_of {t : Tok} (h : WfT t) : cutB t.kind t.num t.text = true := by
  rcases h with ⟨h1, h2, h3, h4⟩ | ⟨h1, h2, h3, h4, h5, h6, h7, h8⟩ | ⟨h1, h2, h3⟩ | ⟨h1, h2, h3⟩
  · rw [h1, h2]
    unfold pathF at h3
    simp only [Bool.and_eq_true, Bool.not_eq_true', decide_eq_false_iff_not, decide_eq_true_eq] at h3
    obtain ⟨p1, p2, p3, p4⟩ := h3
    have hz : 0 < t.text.size := Nat.pos_of_ne_zero (fun e => p1 (toList_nil.2 e))
    have hk : kindOf (bt t.text 0) = 1 := by rw [kind_eq, if_pos p2]
    have hw := nextOf_whole t.text _ p3
    have e : nextOf t.text 0 1 = (⟨1, 0, t.text, 0, (posOf t.text 0).1, (posOf t.text 0).2⟩, (words t.text 0).2) := by
      simp only [nextOf, nextWord, if_true, hw, h4]
      rfl
    unfold cutB
    rw [hk, e]
    simp [hz, p4]
  · rw [h1]
    have hd0 : isDigit (bt t.text 0) = true := by
      have := takeWhile_all (fun b : UInt8 => isDigit (b.toNat : Int)) t.text.data.toList 0
      have hrun : (t.text.data.toList.takeWhile (fun b : UInt8 => isDigit (b.toNat : Int))).length = t.text.size := by
        have h9 := h3
        unfold run at h9
        rwa [List.drop_zero] at h9
      have hlen := len_data t.text
      cases hc : t.text.data.toList with
      | nil => rw [hc] at hlen; simp at hlen; omega
      | cons b l =>
        have hb := this (by omega) b (by rw [hc]; rfl)
        rw [bt_list t.text 0 (by omega), hc]
        exact hb
    have hl0 : isLetter (bt t.text 0) = false := by
      have := digit_range hd0
      unfold isLetter
      simp
      omega
    have hk : kindOf (bt t.text 0) = 2 := by rw [kind_eq, if_neg (by rw [hl0]; decide), if_pos hd0]
    have hw := nextOf_whole t.text (run isDigit t.text (0 : Int).toNat : Nat) (by rw [← h3]; rfl)
    have hlead : ¬ (1 < ((run isDigit t.text (0 : Int).toNat : Nat) : Int) ∧ bt t.text 0 = 48) := by
      rintro ⟨c1, c2⟩
      have c3 : 1 < t.text.size := by
        have : run isDigit t.text (0 : Int).toNat = t.text.size := h3
        omega
      have hi : t.text.data.toList = Lib.decDigits t.num.toNat := by
        rw [← h8]
        show (Lib.itoa t.num).toArray.toList = _
        rw [List.toList_toArray]
        unfold Lib.itoa
        rw [if_neg (by omega)]
      have hlen := len_data t.text
      have hb0 : bt t.text 0 = (((t.text.data.toList[(0 : Int).toNat]?).getD 0).toNat : Int) := bt_list t.text 0 (by omega)
      cases hc : t.text.data.toList with
      | nil => rw [hc] at hlen; simp at hlen; omega
      | cons b l =>
        have hh : (Lib.decDigits t.num.toNat).head? = some b := by rw [← hi, hc]; rfl
        rcases decDigits_head _ _ (Nat.le_refl _) b hh with g | g
        · rw [hc] at hb0
          have : bt t.text 0 = (b.toNat : Int) := hb0
          omega
        · rw [Lib.decDigits, dif_pos g] at hi
          rw [hi] at hlen
          simp at hlen
          omega
    have e : nextOf t.text 0 2 = (⟨2, number t.text, t.text, 0, (posOf t.text 0).1, (posOf t.text 0).2⟩, -1) := by
      simp only [nextOf, nextNum, show ¬ (2 : Int) = 1 by omega, if_false, if_true, hw]
      rw [if_neg (by omega), if_neg hlead]
    unfold cutB
    rw [hk, e]
    simp [h4, h5]
  · rw [h1, h2]
    unfold among at h3
    rw [List.any_eq_true] at h3
    obtain ⟨x, hx, he⟩ := h3
    have : t.text = x := by
      rw [beq_iff_eq, ByteArray.toList_eq, ByteArray.toList_eq] at he
      exact ByteArray.ext (Array.toList_inj.1 he)
    rw [this]
    exact sgs_cut x hx
  · rw [h1, h2]
    unfold isKw at h3
    rw [List.any_eq_true] at h3
    obtain ⟨x, hx, he⟩ := h3
    rw [← beq_toList, beq_iff_eq, ByteArray.toList_eq, ByteArray.toList_eq] at he
    rw [show t.text = x from ByteArray.ext (Array.toList_inj.1 he)]
    exact kws_cut x hx

theorem errT_good {b : Option Tok} {t : Tok} (h : GoodT (b.getD tokZ) t) : errT b t = 0 := by
  have hr : ranT t = false := by
    obtain ⟨k1, k2⟩ := h.wf.kind
    have := h.a0; have := h.a1; have := h.l0; have := h.l1; have := h.c0; have := h.c1
    unfold ranT
    simp only [Bool.or_eq_false_iff, decide_eq_false_iff_not]
    omega
  unfold errT
  rw [if_neg (by rw [hr]; decide), if_pos (cutB_of h.wf)]
  cases b with
  | none => rfl
  | some b =>
    have ho : ordT b t = false := by
      have g1 := h.line; have g2 := h.same; have g3 := h.at_
      simp only [Option.getD_some] at g1 g2 g3
      unfold ordT
      simp only [Bool.or_eq_false_iff, Bool.and_eq_false_iff, decide_eq_false_iff_not]
      refine ⟨by omega, ?_, by omega⟩
      by_cases e : t.line = b.line
      · exact .inr (by have := g2 e.symm; omega)
      · exact .inl e
    simp [ho]

theorem errG_good {l : List Tok} (h : GoodL l) : ∀ (n i : Nat), i + n = l.length → errG l n i = (0, 0) := by
  intro n
  induction n with
  | zero => intro i _; rfl
  | succ n ih =>
    intro i hi
    have hlt : i < l.length := by omega
    have hti := List.getElem?_eq_getElem hlt
    have hg := h i _ hti
    have he : errT (if i = 0 then none else l[i - 1]?) l[i] = 0 := by
      refine errT_good ?_
      by_cases h0 : i = 0
      · rw [if_pos h0] at hg ⊢
        exact hg
      · rw [if_neg h0] at hg ⊢
        exact hg
    rw [errG, hti, Option.getD_some, if_pos he]
    exact ih (i + 1) (by omega)
theorem errL_good {l : List Tok} (h : GoodL l) (hl : l.length ≤ 4000) : errL l = (0, 0) := by
  unfold errL
  rw [if_neg (by omega)]
  exact errG_good h _ _ (by omega)

end Go.Proofs.YtfnhjdehlikbaaaGreatDoor.Lx

/- The reference's right (108): no error for tokens as they come out of a text. -/
namespace Go.Proofs.YtfnhjdehlikbaaaGreatDoor.Lx
open Go.RowKit Go.Proofs.YtfnhjdehlikbaaaGreatDoorW.PrintWords

/-- A copy of a token in a block. -/
structure BoxAt (b : Nat) (t : Tok) (W : World) : Prop where
  box : W.heap[b]? = some (.cells t.cells 121)
theorem BoxAt.step {b : Nat} {t : Tok} {W W' : World} (h : BoxAt b t W) (hb : Below W.heap.size W W') : BoxAt b t W' := ⟨(hb.block _ (heap_lt h.box)).trans h.box⟩
theorem BoxAt.cells {b : Nat} {t : Tok} {W : World} (h : BoxAt b t W) :
    W.cell? ⟨b, 0, none⟩ = some (.int .i64 t.kind) ∧ W.cell? ⟨b, 1, none⟩ = some (.int .i64 t.num) ∧ W.cell? ⟨b, 2, none⟩ = some (.string t.text) ∧ W.cell? ⟨b, 3, none⟩ = some (.int .i64 t.at_) ∧ W.cell? ⟨b, 4, none⟩ = some (.int .i64 t.line) ∧ W.cell? ⟨b, 5, none⟩ = some (.int .i64 t.col) :=
  ⟨cell_of h.box 0, cell_of h.box 1, cell_of h.box 2, cell_of h.box 3, cell_of h.box 4, cell_of h.box 5⟩

end Go.Proofs.YtfnhjdehlikbaaaGreatDoor.Lx

/- The reference's Path (47); equal rows of tokens (29). -/
namespace Go.Proofs.YtfnhjdehlikbaaaGreatDoor.Lx
open Go.RowKit Go.Proofs.YtfnhjdehlikbaaaGreatDoorW.PrintWords

/-- Tokens of the call's own can be read. -/
theorem srcC_reads {W : World} {B : Nat} {v : Value} {l : List Tok} (h : Kd.R kTok 54 W B (fun _ => True) v l) : ∃ A c, v = .slice A l.length c ∧ l.length ≤ c ∧ SrcC A l W := by
  obtain ⟨A, c, hv, hT⟩ := srcT_of_R h
  obtain ⟨A2, c2, hv2, hc2, _⟩ := Kd.R_reads h
  rw [hv] at hv2
  injection hv2 with e1 e2 e3
  subst e1 e3
  exact ⟨A, c, hv, hc2, hT.srcC⟩

end Go.Proofs.YtfnhjdehlikbaaaGreatDoor.Lx

/- The reference's stack and tokens in memory; highest (113). -/
namespace Go.Proofs.YtfnhjdehlikbaaaGreatDoor.Lx
open Go.RowKit Go.Proofs.YtfnhjdehlikbaaaGreatDoorW.PrintWords

theorem flatL_at : ∀ (st : List Lev) (i j : Nat) (v : Lev), st[i]? = some v → j < 3 → (flatL st)[i * 3 + j]? = v.cells.toList[j]? := by
  intro st
  induction st with
  | nil => intro i j v h; simp at h
  | cons a st ih =>
    intro i j v h hj
    have e : flatL (a :: st) = a.cells.toList ++ flatL st := by simp [flatL]
    rw [e]
    have ha : a.cells.toList.length = 3 := rfl
    cases i with
    | zero =>
      simp at h
      subst h
      rw [Nat.zero_mul, Nat.zero_add, List.getElem?_append_left (by omega)]
    | succ i =>
      simp at h
      rw [List.getElem?_append_right (by omega), ← ih i j v h hj]
      congr 1
      omega
theorem levAt_of {W : World} {B ty : Nat} {vs : Value} {st : List Lev} (h : W.ownsRow B ty 3 vs st.length (flatL st)) : ∃ A c, vs = .slice A st.length c ∧ LevAt A st W := by
  rcases h.2 with ⟨h1, h2⟩ | ⟨g, cap, cur, h1, _⟩
  · refine ⟨none, 0, by rw [h2]; exact h1, fun i v hv => ?_⟩
    rw [List.eq_nil_of_length_eq_zero h2] at hv
    simp at hv
  · subst h1
    refine ⟨_, _, rfl, fun i v hv => ⟨g, rfl, ?_⟩⟩
    have hcs := h.cells rfl
    have e : ∀ k, (⟨g, 0, none⟩ : Addr).add k = ⟨g, k, none⟩ := fun k => by unfold Addr.add; split <;> simp_all
    have r : ∀ j u, j < 3 → v.cells.toList[j]? = some u → W.cell? ⟨g, i * 3 + j, none⟩ = some u := fun j u hj hu => by
      rw [← e]
      exact hcs _ _ ((flatL_at st i j v hv hj).trans hu)
    exact ⟨r 0 _ (by omega) rfl, r 1 _ (by omega) rfl, r 2 _ (by omega) rfl⟩

end Go.Proofs.YtfnhjdehlikbaaaGreatDoor.Lx

/- The reference's Lay in the midst: its stack, what came, the token at hand. -/
namespace Go.Proofs.YtfnhjdehlikbaaaGreatDoor.Lx
open Go.RowKit Go.Proofs.YtfnhjdehlikbaaaGreatDoorW.PrintWords

/-- The stack and what came, as rows of the call's own. -/
structure RefH (w : World) (l : List Tok) (A : Option Addr) (st : List Lev) (vs : Value) (out : List Tok) (vo : Value) (W : World) : Prop where
  stack : W.ownsRow w.heap.size 159 3 vs st.length (flatL st)
  out : W.ownsRow w.heap.size 121 6 vo out.length (flat out)
  src0 : SrcC A l w
  below : Below w.heap.size w W
/-- And the token at hand, in its block. -/
structure RefA (w : World) (l : List Tok) (A : Option Addr) (b : Nat) (t : Tok) (st : List Lev) (vs : Value) (out : List Tok) (vo : Value) (W : World) : Prop where
  head : RefH w l A st vs out vo W
  box : W.heap[b]? = some (.cells t.cells 121)
  ns : vs.ownBlock ≠ some b
  no : vo.ownBlock ≠ some b

section
variable {w : World} {l : List Tok} {A : Option Addr} {b : Nat} {t : Tok} {st st' : List Lev} {vs vs' : Value} {out out' : List Tok} {vo vo' : Value} {W W1 W' : World}
theorem RefH.src (h : RefH w l A st vs out vo W) : SrcC A l W := h.src0.below h.below
theorem RefH.step (h : RefH w l A st vs out vo W) (hb : Below W.heap.size W W') : RefH w l A st vs out vo W' :=
  ⟨own_move h.stack (fun k hk => hb.block k (own_lt h.stack k hk)), own_move h.out (fun k hk => hb.block k (own_lt h.out k hk)), h.src0, h.below.trans (hb.mono h.below.size)⟩
theorem RefA.step (h : RefA w l A b t st vs out vo W) (hb : Below W.heap.size W W') : RefA w l A b t st vs out vo W' :=
  ⟨h.head.step hb, (hb.block _ (heap_lt h.box)).trans h.box, h.ns, h.no⟩
theorem RefA.alloc (h : RefA w l A b t st vs out vo W) (o : Obj) : RefA w l A b t st vs out vo (W.alloc o) := h.step ((Below.refl _ W).alloc (Nat.le_refl _) o)
theorem RefH.alloc (h : RefH w l A st vs out vo W) (o : Obj) : RefH w l A st vs out vo (W.alloc o) := h.step ((Below.refl _ W).alloc (Nat.le_refl _) o)
theorem RefH.apart (h : RefH w l A st vs out vo W) (k : Nat) (h1 : vs.ownBlock = some k) (h2 : vo.ownBlock = some k) : False := by
  rcases h.stack.2 with ⟨rfl, _⟩ | ⟨g, cap, cur, rfl, _, a, _⟩
  · simp [Value.ownBlock] at h1
  · rcases h.out.2 with ⟨rfl, _⟩ | ⟨g', cap', cur', rfl, _, a', _⟩
    · simp [Value.ownBlock] at h2
    · simp [Value.ownBlock] at h1 h2
      subst h1; subst h2
      rw [a] at a'
      simp at a'
theorem RefH.put (h : RefH w l A st vs out vo W) (hG : W.grownBy W' vo.ownBlock) (hO : W'.ownsRow w.heap.size 121 6 vo' (out.length + 1) (flat out ++ t.cells.toList)) : RefH w l A st vs (out ++ [t]) vo' W' :=
  ⟨own_move h.stack (fun k hk => hG.block k (own_lt h.stack k hk) (fun e => h.apart k hk e.symm)), by rw [flat_snoc, List.length_append]; exact hO, h.src0, h.below.grown hG h.below.size (fun k hk => own_base h.out k hk)⟩
theorem RefA.put {x : Tok} (h : RefA w l A b t st vs out vo W) (hG : W.grownBy W' vo.ownBlock) (hO : W'.ownsRow w.heap.size 121 6 vo' (out.length + 1) (flat out ++ x.cells.toList)) (hA : vo'.ownBlock = vo.ownBlock ∨ vo'.ownBlock = some W.heap.size) : RefA w l A b t st vs (out ++ [x]) vo' W' :=
  ⟨h.head.put hG hO, (hG.block b (heap_lt h.box) (fun e => h.no e.symm)).trans h.box, h.ns, fun e => by
    rcases hA with h1 | h1
    · exact h.no (h1.symm.trans e)
    · rw [h1] at e
      injection e with e
      have := heap_lt h.box
      omega⟩
theorem RefH.push {v : Lev} (h : RefH w l A st vs out vo W) (hG : W.grownBy W' vs.ownBlock) (hO : W'.ownsRow w.heap.size 159 3 vs' (st.length + 1) (flatL st ++ v.cells.toList)) : RefH w l A (st ++ [v]) vs' out vo W' :=
  ⟨by rw [flatL_snoc, List.length_append]; exact hO, own_move h.out (fun k hk => hG.block k (own_lt h.out k hk) (fun e => h.apart k e.symm hk)), h.src0, h.below.grown hG h.below.size (fun k hk => own_base h.stack k hk)⟩
theorem RefA.push {v : Lev} (h : RefA w l A b t st vs out vo W) (hG : W.grownBy W' vs.ownBlock) (hO : W'.ownsRow w.heap.size 159 3 vs' (st.length + 1) (flatL st ++ v.cells.toList)) (hA : vs'.ownBlock = vs.ownBlock ∨ vs'.ownBlock = some W.heap.size) : RefA w l A b t (st ++ [v]) vs' out vo W' :=
  ⟨h.head.push hG hO, (hG.block b (heap_lt h.box) (fun e => h.ns e.symm)).trans h.box, fun e => by
    rcases hA with h1 | h1
    · exact h.ns (h1.symm.trans e)
    · rw [h1] at e
      injection e with e
      have := heap_lt h.box
      omega, h.no⟩
theorem RefA.cells (h : RefA w l A b t st vs out vo W) :
    W.cell? ⟨b, 0, none⟩ = some (.int .i64 t.kind) ∧ W.cell? ⟨b, 1, none⟩ = some (.int .i64 t.num) ∧ W.cell? ⟨b, 2, none⟩ = some (.string t.text) ∧ W.cell? ⟨b, 3, none⟩ = some (.int .i64 t.at_) ∧ W.cell? ⟨b, 4, none⟩ = some (.int .i64 t.line) ∧ W.cell? ⟨b, 5, none⟩ = some (.int .i64 t.col) :=
  ⟨cell_of h.box 0, cell_of h.box 1, cell_of h.box 2, cell_of h.box 3, cell_of h.box 4, cell_of h.box 5⟩
theorem RefH.lev (h : RefH w l A st vs out vo W) : ∃ S c, vs = .slice S st.length c ∧ LevAt S st W := levAt_of h.stack
theorem RefH.form (h : RefH w l A st vs out vo W) : (∃ S c, vs = .slice S st.length c) ∧ ∃ O c, vo = .slice O out.length c := by
  refine ⟨by obtain ⟨S, c, e, _⟩ := h.lev; exact ⟨S, c, e⟩, ?_⟩
  rcases h.out.2 with ⟨h1, h2⟩ | ⟨g, cap, cur, h1, _⟩
  · exact ⟨none, 0, by rw [h2]; exact h1⟩
  · exact ⟨_, _, h1⟩
end
end Go.Proofs.YtfnhjdehlikbaaaGreatDoor.Lx

/- Plain laws for the reference's Lay: what shutting does, the lowest level is a block, what signs and keywords there are. -/
namespace Go.Proofs.YtfnhjdehlikbaaaGreatDoor.Lx
open Go.RowKit Go.Proofs.YtfnhjdehlikbaaaGreatDoorW.PrintWords

theorem topF_snoc (st : List Lev) (v : Lev) : topF (st ++ [v]) = v := by simp [topF]
theorem shutF_stop {p : Lev → Bool} {t : Tok} {st : List Lev} {v : Lev} {out : List Tok} (h : (v.block && p v) = false) : shutF p t (st ++ [v]) out = (st ++ [v], out) := by
  unfold shutF
  rw [shutL, topF_snoc, if_neg (by rw [h]; decide)]
theorem shutF_go {p : Lev → Bool} {t : Tok} {st : List Lev} {v : Lev} {out : List Tok} (h : (v.block && p v) = true) : shutF p t (st ++ [v]) out = shutF p t st (out ++ [markF 7 t]) := by
  unfold shutF
  rw [shutL, topF_snoc, if_pos h, List.length_append]
  simp
theorem shutF_take (p : Lev → Bool) (t : Tok) : ∀ (n : Nat) (st : List Lev) (out : List Tok), st.length = n → ∃ k, (shutF p t st out).1 = st.take k := by
  intro n
  induction n with
  | zero => intro st out h; exact ⟨0, by rw [List.eq_nil_of_length_eq_zero h]; rfl⟩
  | succ n ih =>
    intro st out h
    rcases List.eq_nil_or_concat st with rfl | ⟨s, v, rfl⟩
    · simp at h
    · rw [List.concat_eq_append] at *
      have hs : s.length = n := by simpa using h
      cases hp : (v.block && p v) with
      | true =>
        rw [shutF_go hp]
        obtain ⟨k, hk⟩ := ih s (out ++ [markF 7 t]) hs
        exact ⟨min k n, by rw [hk, List.take_append_of_le_length (by rw [hs]; exact Nat.min_le_right _ _), ← hs, List.take_eq_take_min]⟩
      | false =>
        rw [shutF_stop hp]
        exact ⟨(s ++ [v]).length, by rw [List.take_length]⟩
theorem shutF_any (t : Tok) : ∀ (n : Nat) (st : List Lev) (out : List Tok), st.length = n → (shutF anyL t st out).1 ≠ [] → (topF (shutF anyL t st out).1).block = false := by
  intro n
  induction n with
  | zero => intro st out h; rw [List.eq_nil_of_length_eq_zero h]; intro hh; exact absurd rfl hh
  | succ n ih =>
    intro st out h
    rcases List.eq_nil_or_concat st with rfl | ⟨s, v, rfl⟩
    · simp at h
    · rw [List.concat_eq_append] at *
      have hs : s.length = n := by simpa using h
      cases hp : (v.block && anyL v) with
      | true =>
        rw [shutF_go hp]
        exact ih s _ hs
      | false =>
        rw [shutF_stop hp, topF_snoc]
        intro _
        simpa [anyL] using hp

/-- The lowest level is a block. -/
def Base (st : List Lev) : Prop := ∃ v, st.head? = some v ∧ v.block = true
theorem Base.ne {st : List Lev} (h : Base st) : st ≠ [] := by
  rintro rfl
  obtain ⟨v, h, _⟩ := h
  cases h
theorem Base.app {st : List Lev} (h : Base st) (l : List Lev) : Base (st ++ l) := by
  obtain ⟨v, h, hb⟩ := h
  refine ⟨v, ?_, hb⟩
  rw [List.head?_append, h]
  rfl
theorem Base.take {st : List Lev} (h : Base st) {k : Nat} (hk : st.take k ≠ []) : Base (st.take k) := by
  obtain ⟨v, h, hb⟩ := h
  cases st with
  | nil => cases h
  | cons a st =>
    cases k with
    | zero => exact absurd rfl hk
    | succ k => exact ⟨v, h, hb⟩
theorem Base.oneA {st : List Lev} (h : Base st) {t : Tok} {begins : Bool} {out : List Tok} (hb : badA t begins st out = false) : Base (oneA t begins st out).1 := by
  unfold badA at hb
  unfold Lx.oneA
  cases begins with
  | false => exact h
  | true =>
    rw [if_pos rfl]
    rw [Bool.true_and] at hb
    obtain ⟨k, hk⟩ := shutF_take (deeper t) t _ st out rfl
    simp only
    rw [hk] at hb ⊢
    exact h.take (fun e => by rw [e] at hb; cases hb)
theorem Base.oneB {st : List Lev} (h : Base st) {t : Tok} {out : List Tok} (hb : badB t st out = false) : Base (oneB t st out).1 := by
  unfold badB at hb
  unfold Lx.oneB
  by_cases hc : closing t = true
  · rw [hc, Bool.true_and, Bool.or_eq_false_iff] at hb
    rw [if_pos hc]
    obtain ⟨k, hk⟩ := shutF_take anyL t _ st out rfl
    have hne : (shutF anyL t st out).1 ≠ [] := fun e => by rw [e] at hb; cases hb.1
    have htop := shutF_any t _ st out rfl hne
    have hB : Base (shutF anyL t st out).1 := by rw [hk] at hne ⊢; exact h.take hne
    simp only
    generalize (shutF anyL t st out).1 = s at hB htop
    rcases List.eq_nil_or_concat s with rfl | ⟨s, v, rfl⟩
    · exact absurd rfl hB.ne
    · rw [List.concat_eq_append] at *
      rw [topF_snoc] at htop
      rw [List.dropLast_concat]
      obtain ⟨u, hu, hub⟩ := hB
      cases s with
      | nil =>
        simp at hu
        rw [hu] at htop
        rw [htop] at hub
        cases hub
      | cons a s => exact ⟨u, hu, hub⟩
  · rw [if_neg hc]
    exact h
theorem Base.oneC {st : List Lev} (h : Base st) (t nx : Tok) (more : Bool) (out : List Tok) : Base (oneC t nx more st out).1.1 := by
  unfold Lx.oneC
  split
  · exact h.app _
  · split
    · split
      · exact h.app _
      · exact h
    · exact h
theorem among_mem {l : List ByteArray} {s : ByteArray} : among l s = true ↔ s ∈ l := by
  unfold among
  rw [List.any_eq_true]
  constructor
  · rintro ⟨x, hx, he⟩
    rw [beq_iff_eq, ByteArray.toList_eq, ByteArray.toList_eq] at he
    rwa [show s = x from ByteArray.ext (Array.toList_inj.1 he)]
  · exact fun h => ⟨s, h, by simp⟩
theorem special_path : ∀ x ∈ closers ++ openers, ¬ (pathF x = true ∧ isKw x = false) := by decide +kernel
theorem special_digit : ∀ x ∈ closers ++ openers, run isDigit x 0 ≠ x.size := by decide +kernel
theorem special_sign {t : Tok} (h : WfT t) (hx : t.text ∈ closers ++ openers) : t.sign = true := by
  rcases h with ⟨_, _, h3, h4⟩ | ⟨_, _, h3, _⟩ | ⟨h1, _⟩ | ⟨h1, _⟩
  · exact absurd ⟨h3, h4⟩ (special_path _ hx)
  · exact absurd h3 (special_digit _ hx)
  · unfold Tok.sign; rw [h1]; rfl
  · unfold Tok.sign; rw [h1]; rfl
theorem closing_wf {t : Tok} (h : WfT t) : closing t = among closers t.text := by
  unfold closing
  cases ha : among closers t.text with
  | false => rw [Bool.and_false]
  | true => rw [special_sign h (List.mem_append_left _ (among_mem.1 ha)), Bool.and_true]
theorem opening_wf {t : Tok} (h : WfT t) : opening t = among openers t.text := by
  unfold opening
  cases ha : among openers t.text with
  | false => rw [Bool.and_false]
  | true => rw [special_sign h (List.mem_append_right _ (among_mem.1 ha)), Bool.and_true]
theorem withs_closer {s : ByteArray} (h : sq s [119, 105, 116, 104] = true) : s = ⟨#[119, 105, 116, 104]⟩ := by
  unfold sq at h
  rw [beq_iff_eq, ByteArray.toList_eq] at h
  exact ByteArray.ext (Array.toList_inj.1 h)
theorem withs_wf {t : Tok} (h : WfT t) : withs t = sq t.text [119, 105, 116, 104] := by
  unfold withs
  cases ha : sq t.text [119, 105, 116, 104] with
  | false => rw [Bool.and_false]
  | true => rw [special_sign h (List.mem_append_left _ (by rw [withs_closer ha]; simp [closers])), Bool.and_true]
end Go.Proofs.YtfnhjdehlikbaaaGreatDoor.Lx

/- The reference's Lay (74): it gives what the layer's work in plain words gives. -/
namespace Go.Proofs.YtfnhjdehlikbaaaGreatDoor.Lx
open Go.RowKit Go.Proofs.YtfnhjdehlikbaaaGreatDoorW.PrintWords

section
variable {w : World} {l : List Tok} {A : Option Addr} {b : Nat} {t : Tok} {st : List Lev} {vs : Value} {out : List Tok} {vo : Value} {W : World}
theorem RefH.cap {S : Option Addr} {n c : Nat} (h : RefH w l A st (.slice S n c) out vo W) : st.length = n ∧ n ≤ c := by
  rcases h.stack.2 with ⟨h1, h2⟩ | ⟨g, cap, cur, h1, _, _, h2, _⟩
  · injection h1 with a b c
    omega
  · injection h1 with a b c
    omega
end

section
variable {w : World} {l : List Tok} {A : Option Addr} {b : Nat} {t x : Tok} {v : Lev} {st : List Lev} {vs vs' : Value} {out : List Tok} {vo vo' : Value} {W W' : World} {O S : Option Addr} {n c : Nat}
end
end Go.Proofs.YtfnhjdehlikbaaaGreatDoor.Lx

