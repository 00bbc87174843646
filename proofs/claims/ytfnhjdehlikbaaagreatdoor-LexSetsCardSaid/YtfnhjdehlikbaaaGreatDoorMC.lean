import Derived.Test.YtfnhjdehlikbaaaGreatDoorMB
import Derived.Test.YtfnhjdehlikbaaaGreatDoorM8
import Derived.Test.YtfnhjdehlikbaaaGreatDoorM9
import Derived.Test.YtfnhjdehlikbaaaGreatDoorMA
set_option linter.unusedVariables false
set_option linter.unusedSimpArgs false
/- A right token ahead of a byte that stops it (towards LexSets). -/
namespace Go.Proofs.YtfnhjdehlikbaaaGreatDoor.Lx
open Go.Proofs.YtfnhjdehlikbaaaGreatDoorW.PrintWords

/-- A text goes on with a byte. -/
def GoesCh (c : UInt8) (s s' : ByteArray) : Prop := ∃ r, s'.data.toList = s.data.toList ++ c :: r

theorem takeWhile_ch (c : UInt8) (p : UInt8 → Bool) (r : List UInt8) (hp : p c = false) : ∀ l : List UInt8, ((l ++ c :: r).takeWhile p).length = (l.takeWhile p).length := by
  intro l
  induction l with
  | nil => rw [List.nil_append, List.takeWhile_cons, hp]; rfl
  | cons b l ih =>
    rw [List.cons_append, List.takeWhile_cons, List.takeWhile_cons]
    split
    · rw [List.length_cons, List.length_cons, ih]
    · rfl
section
variable {c : UInt8} {s s' : ByteArray}
theorem GoesCh.size (h : GoesCh c s s') : s.size + 1 ≤ s'.size := by
  obtain ⟨r, hr⟩ := h
  have := congrArg List.length hr
  rw [len_data, List.length_append, len_data, List.length_cons] at this
  omega
theorem GoesCh.byte (h : GoesCh c s s') (i : Int) (h0 : 0 ≤ i) (hi : i < s.size) : bt s' i = bt s i := by
  obtain ⟨r, hr⟩ := h
  rw [bt_list _ _ h0, bt_list _ _ h0, hr, List.getElem?_append_left (by rw [len_data]; omega)]
theorem GoesCh.bt_end (h : GoesCh c s s') : bt s' s.size = c.toNat := by
  obtain ⟨r, hr⟩ := h
  rw [bt_list _ _ (by omega), hr, Int.toNat_natCast, List.getElem?_append_right (by rw [len_data]; exact Nat.le_refl _), len_data, Nat.sub_self]
  rfl
theorem GoesCh.run (h : GoesCh c s s') (p : Int → Bool) (hp : p (c.toNat : Int) = false) (a : Nat) (ha : a ≤ s.size) : Lx.run p s' a = Lx.run p s a := by
  obtain ⟨r, hr⟩ := h
  unfold Lx.run
  rw [hr, List.drop_append_of_le_length (by rw [len_data]; exact ha)]
  exact takeWhile_ch c (fun b => p (b.toNat : Int)) r hp _
theorem GoesCh.more (h : GoesCh c s s') (hl : isLetter (c.toNat : Int) = false) (hd : c ≠ 46) (i : Int) (h0 : 0 ≤ i) (hi : i ≤ s.size) : Lx.more s' i = Lx.more s i := by
  have hz := h.size
  unfold Lx.more
  by_cases h1 : i + 1 < s.size
  · rw [decide_eq_true h1, decide_eq_true (by omega), h.byte i h0 (by omega), h.byte (i + 1) (by omega) (by omega)]
  · rw [decide_eq_false h1, Bool.false_and]
    by_cases h2 : i + 1 = s.size
    · have : isLetter (bt s' (i + 1)) = false := by rw [h2, h.bt_end]; exact hl
      rw [this, Bool.and_false, Bool.and_false]
    · obtain rfl : i = s.size := by omega
      have : (bt s' s.size == 46) = false := by
        rw [h.bt_end, beq_eq_false_iff_ne]
        intro e
        exact hd (UInt8.toNat_inj.1 (by rw [show (46 : UInt8).toNat = 46 from rfl]; omega))
      rw [this, Bool.false_and, Bool.and_false]
theorem GoesCh.wordsL (h : GoesCh c s s') (hl : isLetter (c.toNat : Int) = false) (hd : c ≠ 46) (a : Int) (ha : 0 ≤ a) : ∀ (f f' : Nat) (n bad many : Int), 0 ≤ n → a + n ≤ s.size → s.size < a + n + f → s.size < a + n + f' → Lx.wordsL s' a f' n bad many = Lx.wordsL s a f n bad many := by
  intro f
  induction f with
  | zero => intro f' n bad many h1 h2 h3; omega
  | succ f ih =>
    intro f' n bad many h1 h2 h3 h4
    cases f' with
    | zero => omega
    | succ f' =>
      simp only [Lx.wordsL]
      rw [h.run isLetter hl _ (by omega)]
      have hr := run_le isLetter s (a + n).toNat (by omega)
      generalize Lx.run isLetter s (a + n).toNat = k at hr ⊢
      rw [h.more hl hd _ (by omega) (by omega)]
      split
      · rename_i hm
        have : a + (n + (k : Int)) + 1 < s.size := by
          unfold Lx.more at hm
          simp only [Bool.and_eq_true, decide_eq_true_eq] at hm
          exact hm.1
        exact ih f' _ _ _ (by omega) (by omega) (by omega) (by omega)
      · rfl
theorem GoesCh.words (h : GoesCh c s s') (hl : isLetter (c.toNat : Int) = false) (hd : c ≠ 46) (a : Int) (h0 : 0 ≤ a) (ha : a ≤ s.size) : Lx.words s' a = Lx.words s a := by
  have hz := h.size
  exact h.wordsL hl hd a h0 _ _ 0 (-1) 1 (by omega) (by omega) (by omega) (by omega)
theorem GoesCh.extract (h : GoesCh c s s') (a b : Nat) (hb : b ≤ s.size) : s'.extract a b = s.extract a b := by
  obtain ⟨r, hr⟩ := h
  have e : (s'.extract a b).data.toList = (s.extract a b).data.toList := by
    rw [Lib.extract_data, Lib.extract_data, hr]
    by_cases ha : a ≤ s.size
    · rw [List.drop_append_of_le_length (by rw [len_data]; exact ha), List.take_append_of_le_length (by rw [List.length_drop, len_data]; omega)]
    · rw [show b - a = 0 by omega, List.take_zero, List.take_zero]
  exact ByteArray.ext (Array.toList_inj.1 e)
theorem GoesCh.posOf (h : GoesCh c s s') (a : Int) (ha : a ≤ s.size) : Lx.posOf s' a = Lx.posOf s a := by
  obtain ⟨r, hr⟩ := h
  unfold Lx.posOf
  rw [hr, List.take_append_of_le_length (by rw [len_data]; omega)]
theorem GoesCh.nextWord (h : GoesCh c s s') (hl : isLetter (c.toNat : Int) = false) (hd : c ≠ 46) (a : Int) (h0 : 0 ≤ a) (ha : a ≤ s.size) : Lx.nextWord s' a = Lx.nextWord s a := by
  obtain ⟨b1, b2, _, _⟩ := words_le s a h0 ha
  unfold Lx.nextWord
  simp only
  rw [h.words hl hd a h0 ha, h.posOf a ha, h.extract _ _ (by omega)]
theorem GoesCh.nextNum (h : GoesCh c s s') (hn : isDigit (c.toNat : Int) = false) (a : Int) (h0 : 0 ≤ a) (ha : a < s.size) : Lx.nextNum s' a = Lx.nextNum s a := by
  have hr := run_le isDigit s a.toNat (by omega)
  unfold Lx.nextNum
  simp only
  rw [h.run isDigit hn _ (by omega), h.posOf a (by omega), h.byte a h0 ha, h.extract _ _ (by omega)]
end
/-- A byte that a sign does not take. -/
def SignStop (x : List UInt8) (c : UInt8) : Prop := (x = [45] → c ≠ 62) ∧ (x = [61] → c ≠ 61)
theorem longest_ch (c : UInt8) (r : List UInt8) : ∀ x ∈ sgs, SignStop x.data.toList c → Lx.longest ⟨(x.data.toList ++ c :: r).toArray⟩ = x := by
  intro x hx hc
  unfold Lx.longest
  simp only [sgs, List.mem_cons, List.not_mem_nil, or_false] at hx
  rcases hx with rfl | rfl | rfl | rfl | rfl | rfl | rfl | rfl | rfl | rfl | rfl | rfl | rfl | rfl | rfl | rfl | rfl | rfl
  all_goals (simp [sgs, hasPrefix, List.find?, List.isPrefixOf, SignStop] at hc ⊢)
  all_goals (rw [beq_eq_false_iff_ne.2 (fun e => hc e.symm)]; rfl)

theorem longest_self : ∀ x ∈ sgs, longest x = x := by decide +kernel
/-- A byte that stops a token. -/
def Stop (t : Tok) (c : UInt8) : Prop :=
  (t.kind = 1 ∨ t.kind = 4 → isLetter (c.toNat : Int) = false ∧ c ≠ 46) ∧ (t.kind = 2 → isDigit (c.toNat : Int) = false) ∧ (t.kind = 3 → SignStop t.text.data.toList c ∧ (t.text.data.toList = [45] → c ≠ 45))
theorem stop_blank (t : Tok) : Stop t 32 := ⟨fun _ => ⟨by decide, by decide⟩, fun _ => by decide, fun _ => ⟨⟨fun _ => by decide, fun _ => by decide⟩, fun _ => by decide⟩⟩
theorem stop_line (t : Tok) : Stop t 10 := ⟨fun _ => ⟨by decide, by decide⟩, fun _ => by decide, fun _ => ⟨⟨fun _ => by decide, fun _ => by decide⟩, fun _ => by decide⟩⟩

/-- What is cut at a right token's text, alone. -/
theorem next_alone {t : Tok} (h : WfT t) : 0 < t.text.size ∧ kindOf (bt t.text 0) ≠ 0 ∧ (nextOf t.text 0 (kindOf (bt t.text 0))).2 < 0 ∧ (nextOf t.text 0 (kindOf (bt t.text 0))).1.kind = t.kind ∧ (nextOf t.text 0 (kindOf (bt t.text 0))).1.num = t.num ∧ (nextOf t.text 0 (kindOf (bt t.text 0))).1.text = t.text := by
  have hc := cutB_of h
  unfold cutB at hc
  simp only [Bool.and_eq_true, decide_eq_true_eq, beq_iff_eq] at hc
  obtain ⟨c1, c2, c3, c4, c5, c6⟩ := hc
  rw [ByteArray.toList_eq, ByteArray.toList_eq] at c5
  exact ⟨c1, c2, c3, c4, c6, ByteArray.ext (Array.toList_inj.1 c5)⟩
theorem kind_three (x : ByteArray) (a : Int) (h : kindOf (bt x a) ≠ 0) : kindOf (bt x a) = 1 ∨ kindOf (bt x a) = 2 ∨ kindOf (bt x a) = 3 := by
  rw [kind_eq] at h ⊢
  split
  · exact .inl rfl
  · split
    · exact .inr (.inl rfl)
    · split
      · exact .inr (.inr rfl)
      · rename_i h1 h2 h3; rw [if_neg h1, if_neg h2, if_neg h3] at h; exact absurd rfl h
/-- .. and ahead of a byte that stops it. -/
theorem next_stop {t : Tok} (h : WfT t) {s' : ByteArray} {c : UInt8} (hg : GoesCh c t.text s') (hc : Stop t c) : kindOf (bt s' 0) ≠ 0 ∧ (nextOf s' 0 (kindOf (bt s' 0))).2 < 0 ∧ (nextOf s' 0 (kindOf (bt s' 0))).1.kind = t.kind ∧ (nextOf s' 0 (kindOf (bt s' 0))).1.num = t.num ∧ (nextOf s' 0 (kindOf (bt s' 0))).1.text = t.text := by
  obtain ⟨hz, c2, c3, c4, c6, c5⟩ := next_alone h
  rw [hg.byte 0 (by omega) (by omega)]
  have key : nextOf s' 0 (kindOf (bt t.text 0)) = nextOf t.text 0 (kindOf (bt t.text 0)) := by
    rcases kind_three t.text 0 c2 with hk | hk | hk
    · rw [hk] at c4 ⊢
      have hw : t.kind = 1 ∨ t.kind = 4 := by
        rw [← c4]
        show (nextWord t.text 0).1.kind = 1 ∨ (nextWord t.text 0).1.kind = 4
        unfold nextWord
        simp only
        split
        · exact .inr rfl
        · exact .inl rfl
      obtain ⟨h1, h2⟩ := hc.1 hw
      show nextWord s' 0 = nextWord t.text 0
      exact hg.nextWord h1 h2 0 (by omega) (by omega)
    · rw [hk] at c4 ⊢
      have hw : t.kind = 2 := c4.symm
      show nextNum s' 0 = nextNum t.text 0
      exact hg.nextNum (hc.2.1 hw) 0 (by omega) (by omega)
    · rw [hk] at c4 ⊢
      have hw : t.kind = 3 := c4.symm
      have hx : t.text ∈ sgs := by
        rcases h with ⟨h1, _⟩ | ⟨h1, _⟩ | ⟨_, _, h1⟩ | ⟨h1, _⟩
        · omega
        · omega
        · unfold among at h1
          rw [List.any_eq_true] at h1
          obtain ⟨y, hy, he⟩ := h1
          rw [beq_iff_eq, ByteArray.toList_eq, ByteArray.toList_eq] at he
          rw [show t.text = y from ByteArray.ext (Array.toList_inj.1 he)]
          exact hy
        · omega
      obtain ⟨r, hr⟩ := hg
      have hl : longest s' = t.text := by
        have h9 := longest_ch c r t.text hx (hc.2.2 hw).1
        rwa [← hr] at h9
      have hl2 : longest t.text = t.text := longest_self t.text hx
      show nextSign s' 0 = nextSign t.text 0
      have hgg : GoesCh c t.text s' := ⟨r, hr⟩
      have e1 : s'.extract (0 : Int).toNat s'.size = s' := by show s'.extract 0 s'.size = s'; simp
      have e2 : t.text.extract (0 : Int).toNat t.text.size = t.text := by show t.text.extract 0 t.text.size = t.text; simp
      unfold nextSign
      simp only
      rw [e1, e2, hl, hl2, hgg.posOf 0 (by omega), hgg.extract _ _ (by omega)]
  rw [key]
  exact ⟨c2, c3, c4, c6, c5⟩

end Go.Proofs.YtfnhjdehlikbaaaGreatDoor.Lx

/- Right tokens with layout ahead of each are cut as they are (towards LexSets). -/
namespace Go.Proofs.YtfnhjdehlikbaaaGreatDoor.Lx
open Go.Proofs.YtfnhjdehlikbaaaGreatDoorW.PrintWords

theorem bt_app {T : ByteArray} {P R : List UInt8} {b : UInt8} (h : T.data.toList = P ++ b :: R) : bt T P.length = b.toNat := by
  rw [bt_list _ _ (by omega), h, Int.toNat_natCast, List.getElem?_append_right (Nat.le_refl _), Nat.sub_self]
  rfl
theorem lay_gap {T : ByteArray} : ∀ (gap P R : List UInt8), T.data.toList = P ++ (gap ++ R) → (∀ b ∈ gap, b = 10 ∨ b = 32) → lay T P.length = lay T ((P.length + gap.length : Nat) : Int) := by
  intro gap
  induction gap with
  | nil => intro P R _ _; rfl
  | cons b g ih =>
    intro P R h hb
    have h1 : T.data.toList = P ++ b :: (g ++ R) := h
    have hlt : (P.length : Int) < T.size := by
      have := congrArg List.length h1
      rw [len_data, List.length_append, List.length_cons] at this
      omega
    have hbt := bt_app h1
    rw [lay_step T P.length (by omega) hlt (by
      rw [hbt]
      rcases hb b (by simp) with rfl | rfl
      · right; decide
      · left; decide)]
    have h2 := ih (P ++ [b]) R (by rw [h1]; simp) (fun x hx => hb x (by simp [hx]))
    rw [List.length_append, List.length_singleton] at h2
    rw [show (P.length : Int) + 1 = ((P.length + 1 : Nat) : Int) by omega, h2, List.length_cons]
    congr 2
    omega
theorem sgs_dash : ∀ x ∈ sgs, bt x 0 = 45 → x = ⟨#[45]⟩ ∨ x = ⟨#[45, 62]⟩ := by decide +kernel
theorem kind45 : kindOf 45 = 3 := by decide +kernel
theorem kind10 : kindOf 10 = 0 := by decide +kernel
theorem kind32 : kindOf 32 = 0 := by decide +kernel
theorem wf_sign {t : Tok} (h : WfT t) (hb : bt t.text 0 = 45) : t.text = ⟨#[45]⟩ ∧ t.kind = 3 ∨ t.text = ⟨#[45, 62]⟩ := by
  obtain ⟨hz, c2, c3, c4, c6, c5⟩ := next_alone h
  rw [hb, kind45] at c4
  have hw : t.kind = 3 := c4.symm
  rcases h with ⟨h1, _⟩ | ⟨h1, _⟩ | ⟨_, _, h1⟩ | ⟨h1, _⟩
  · omega
  · omega
  · unfold among at h1
    rw [List.any_eq_true] at h1
    obtain ⟨y, hy, he⟩ := h1
    rw [beq_iff_eq, ByteArray.toList_eq, ByteArray.toList_eq] at he
    have e : t.text = y := ByteArray.ext (Array.toList_inj.1 he)
    rw [← e] at hy
    rcases sgs_dash _ hy hb with h2 | h2
    · exact .inl ⟨h2, hw⟩
    · exact .inr h2
  · omega
/-- No remark begins at a right token. -/
theorem dash_free {t : Tok} (h : WfT t) {s' : ByteArray} {R : List UInt8} (hs : s'.data.toList = t.text.data.toList ++ R) (hR : R = [] ∨ ∃ c r, R = c :: r ∧ Stop t c) : dash s' 0 = false := by
  obtain ⟨hz, _⟩ := next_alone h
  have hb0 : bt s' 0 = bt t.text 0 := by
    rw [bt_list _ _ (by omega), bt_list _ _ (by omega), hs, List.getElem?_append_left (by rw [len_data]; exact hz)]
  unfold dash
  by_cases hb : bt t.text 0 = 45
  · rcases wf_sign h hb with ⟨hx, hk⟩ | hx
    · rcases hR with rfl | ⟨c, r, rfl, hc⟩
      · have : s'.size = 1 := by rw [← len_data, hs, hx]; rfl
        rw [decide_eq_false (by omega)]
        rfl
      · have hc2 := (hc.2.2 hk).2 (by rw [hx])
        have hb1 : bt s' (0 + 1) = c.toNat := by
          have := bt_app (T := s') (P := t.text.data.toList) (b := c) (R := r) hs
          rw [hx] at this
          exact this
        have : (bt s' (0 + 1) == 45) = false := by
          rw [hb1, beq_eq_false_iff_ne]
          intro e
          exact hc2 (UInt8.toNat_inj.1 (by rw [show (45 : UInt8).toNat = 45 from rfl]; omega))
        rw [this, Bool.and_false, Bool.and_false]
    · have hb1 : bt s' (0 + 1) = 62 := by
        rw [bt_list _ _ (by omega), hs, hx]
        rfl
      rw [hb1]
      simp
  · rw [hb0, beq_eq_false_iff_ne.2 hb]
    simp
/-- One token more. -/
theorem rawTo_step {T : ByteArray} {P gap R : List UInt8} {t : Tok} {L : List Tok} (h : WfT t) (hT : T.data.toList = P ++ (gap ++ (t.text.data.toList ++ R))) (hg : ∀ b ∈ gap, b = 10 ∨ b = 32) (hR : R = [] ∨ ∃ c r, R = c :: r ∧ Stop t c)
    (hL : RawTo T ((P.length + gap.length + t.text.size : Nat) : Int) L) : RawTo T P.length (t.moved ((P.length + gap.length : Nat) : Int) (posOf T ((P.length + gap.length : Nat) : Int)) :: L) := by
  obtain ⟨s', hs⟩ : ∃ s' : ByteArray, s'.data.toList = t.text.data.toList ++ R := ⟨⟨(t.text.data.toList ++ R).toArray⟩, by simp⟩
  have hB : Behind (P ++ gap) s' T := ⟨by rw [hT, hs, List.append_assoc]⟩
  have hlen : (P ++ gap).length = P.length + gap.length := List.length_append
  obtain ⟨hz, _⟩ := next_alone h
  have hsz : 0 < s'.size := by rw [← len_data, hs, List.length_append, len_data]; omega
  have hN : kindOf (bt s' 0) ≠ 0 ∧ (nextOf s' 0 (kindOf (bt s' 0))).2 < 0 ∧ (nextOf s' 0 (kindOf (bt s' 0))).1.kind = t.kind ∧ (nextOf s' 0 (kindOf (bt s' 0))).1.num = t.num ∧ (nextOf s' 0 (kindOf (bt s' 0))).1.text = t.text := by
    rcases hR with rfl | ⟨c, r, rfl, hc⟩
    · rw [List.append_nil] at hs
      rw [show s' = t.text from ByteArray.ext (Array.toList_inj.1 hs)]
      exact (next_alone h).2
    · exact next_stop h ⟨r, hs⟩ hc
  obtain ⟨n1, n2, n3, n4, n5⟩ := hN
  have hb : bt T ((P.length + gap.length : Nat) : Int) = bt s' 0 := by
    have := hB.byte 0 (by omega)
    rw [hlen, Int.add_zero] at this
    exact this
  have hd : dash T ((P.length + gap.length : Nat) : Int) = false := by
    have := hB.dash 0 (by omega)
    rw [hlen, Int.add_zero] at this
    rw [this]
    exact dash_free h hs hR
  have hlay : lay T P.length = ((P.length + gap.length : Nat) : Int) := by
    rw [lay_gap gap P _ hT hg]
    refine lay_stay T _ ?_ hd
    rw [hb]
    rintro (e | e)
    · rw [e] at n1; exact n1 kind32
    · rw [e] at n1; exact n1 kind10
  have hnx := hB.nextOf 0 (kindOf (bt s' 0)) (by omega) (by omega)
  rw [hlen, Int.add_zero] at hnx
  have hTs : T.size = P.length + gap.length + s'.size := by rw [hB.size, hlen]
  have he : t.moved ((P.length + gap.length : Nat) : Int) (posOf T ((P.length + gap.length : Nat) : Int)) = (nextOf T (lay T P.length) (kindOf (bt T (lay T P.length)))).1 := by
    rw [hlay, hb, hnx]
    simp only
    generalize (nextOf s' 0 (kindOf (bt s' 0))).1 = u at n3 n4 n5
    unfold Tok.moved
    rw [n3, n4, n5]
  rw [he]
  refine .cons (by rw [hlay]; omega) (by rw [hlay, hb]; exact n1) (by rw [hlay, hb, hnx]; exact n2) ?_
  rw [← he, hlay]
  have : ((P.length + gap.length : Nat) : Int) + ((t.moved ((P.length + gap.length : Nat) : Int) (posOf T ((P.length + gap.length : Nat) : Int))).text.size : Int) = ((P.length + gap.length + t.text.size : Nat) : Int) := by
    show ((P.length + gap.length : Nat) : Int) + (t.text.size : Int) = _
    omega
  rw [this]
  exact hL

end Go.Proofs.YtfnhjdehlikbaaaGreatDoor.Lx

/- The text that has tokens in their places, and that with blanks between them, have these tokens (towards LexSets). -/
namespace Go.Proofs.YtfnhjdehlikbaaaGreatDoor.Lx
open Go.Proofs.YtfnhjdehlikbaaaGreatDoorW.PrintWords

/-- The text of a token by its number. -/
def txt (l : List Tok) (i : Nat) : List UInt8 := (l[i]?.getD tokZ).text.data.toList
/-- Tokens with layout ahead of each: up to one, and from one on. -/
def pre (G : Nat → List UInt8) (l : List Tok) : Nat → List UInt8
  | 0 => []
  | n + 1 => pre G l n ++ (G n ++ txt l n)
def suf (G : Nat → List UInt8) (l : List Tok) : Nat → Nat → List UInt8
  | _, 0 => []
  | i, k + 1 => G i ++ (txt l i ++ suf G l (i + 1) k)
theorem pre_suf (G : Nat → List UInt8) (l : List Tok) : ∀ k i, pre G l i ++ suf G l i k = pre G l (i + k) := by
  intro k
  induction k with
  | zero => intro i; rw [suf, List.append_nil]; rfl
  | succ k ih =>
    intro i
    have h := ih (i + 1)
    rw [show i + 1 + k = i + (k + 1) by omega] at h
    rw [← h, suf, pre]
    simp only [List.append_assoc]
/-- The tokens that are cut there. -/
def put (G : Nat → List UInt8) (l : List Tok) (T : ByteArray) : Nat → Nat → List Tok
  | _, 0 => []
  | i, k + 1 => (l[i]?.getD tokZ).moved (((pre G l i).length + (G i).length : Nat) : Int) (posOf T (((pre G l i).length + (G i).length : Nat) : Int)) :: put G l T (i + 1) k
theorem put_get (G : Nat → List UInt8) (l : List Tok) (T : ByteArray) : ∀ (k i j : Nat), j < k → (put G l T i k)[j]? = some ((l[i + j]?.getD tokZ).moved (((pre G l (i + j)).length + (G (i + j)).length : Nat) : Int) (posOf T (((pre G l (i + j)).length + (G (i + j)).length : Nat) : Int))) := by
  intro k
  induction k with
  | zero => intro i j h; omega
  | succ k ih =>
    intro i j h
    cases j with
    | zero => rfl
    | succ j =>
      rw [put, List.getElem?_cons_succ, ih (i + 1) j (by omega), show i + 1 + j = i + (j + 1) by omega]
theorem put_len (G : Nat → List UInt8) (l : List Tok) (T : ByteArray) : ∀ (k i : Nat), (put G l T i k).length = k := by
  intro k
  induction k with
  | zero => intro i; rfl
  | succ k ih => intro i; rw [put, List.length_cons, ih]
/-- All of them. -/
theorem rawTo_glue {G : Nat → List UInt8} {l : List Tok} {T : ByteArray} (hw : ∀ t ∈ l, WfT t) (hT : T.data.toList = pre G l l.length) (hG : ∀ i, ∀ b ∈ G i, b = 10 ∨ b = 32)
    (hA : ∀ i, i + 1 < l.length → G (i + 1) = [] → ∀ c r, txt l (i + 1) = c :: r → Stop (l[i]?.getD tokZ) c) : ∀ k i, i + k = l.length → RawTo T ((pre G l i).length : Int) (put G l T i k) := by
  intro k
  induction k with
  | zero =>
    intro i hi
    have e : (T.size : Int) = (pre G l i).length := by rw [← len_data, hT, show i = l.length by omega]
    rw [← e]
    exact .nil (lay_end T)
  | succ k ih =>
    intro i hi
    have hlt : i < l.length := by omega
    have hti : l[i]?.getD tokZ = l[i] := by rw [List.getElem?_eq_getElem hlt]; rfl
    have hwt := hw _ (List.getElem_mem hlt)
    have hTT : T.data.toList = pre G l i ++ (G i ++ (l[i].text.data.toList ++ suf G l (i + 1) k)) := by
      have := pre_suf G l (k + 1) i
      rw [hT, show l.length = i + (k + 1) by omega, ← this, suf]
      unfold txt
      rw [hti]
    have hR : suf G l (i + 1) k = [] ∨ ∃ c r, suf G l (i + 1) k = c :: r ∧ Stop l[i] c := by
      cases k with
      | zero => exact .inl rfl
      | succ k =>
        right
        have hlt2 : i + 1 < l.length := by omega
        rw [suf]
        cases hg : G (i + 1) with
        | cons b g =>
          refine ⟨b, _, rfl, ?_⟩
          rcases hG (i + 1) b (by rw [hg]; simp) with rfl | rfl
          · exact stop_line _
          · exact stop_blank _
        | nil =>
          have hz := (next_alone (hw _ (List.getElem_mem hlt2))).1
          cases hx : txt l (i + 1) with
          | nil =>
            exfalso
            unfold txt at hx
            rw [List.getElem?_eq_getElem hlt2, Option.getD_some] at hx
            rw [← len_data, hx] at hz
            simp at hz
          | cons c r =>
            have h9 := hA i hlt2 hg c r hx
            rw [hti] at h9
            exact ⟨c, _, rfl, h9⟩
    have hnext := ih (i + 1) (by omega)
    have hlen : (pre G l (i + 1)).length = (pre G l i).length + (G i).length + l[i].text.size := by
      rw [pre, List.length_append, List.length_append]
      unfold txt
      rw [hti, len_data]
      omega
    rw [hlen] at hnext
    rw [put, hti]
    exact rawTo_step hwt hTT (hG i) hR hnext

theorem takeW (s : ByteArray) (u r : List UInt8) (h : s.data.toList = u ++ 10 :: r) : GoesOn ⟨u.toArray⟩ s := ⟨r, by rw [h]⟩
/-- A right token's text is in one line. -/
theorem wf_line {t : Tok} (h : WfT t) : NoNl t.text.data.toList := by
  intro hm
  obtain ⟨u, r, hu⟩ := List.append_of_mem hm
  have hg := takeW t.text u r hu
  have hus : (⟨u.toArray⟩ : ByteArray).size = u.length := by show u.toArray.size = _; simp
  have hsz : t.text.size = u.length + (r.length + 1) := by rw [← len_data, hu, List.length_append, List.length_cons]
  rcases h with ⟨_, _, h1, _⟩ | ⟨_, _, h1, _⟩ | ⟨_, _, h1⟩ | ⟨_, _, h1⟩
  · unfold pathF at h1
    simp only [Bool.and_eq_true, decide_eq_true_eq] at h1
    have h2 := h1.2.2.1
    rw [hg.words 0 (by omega) (by omega)] at h2
    obtain ⟨_, b2, _⟩ := words_le ⟨u.toArray⟩ 0 (by omega) (by omega)
    rw [h2, hus] at b2
    omega
  · rw [hg.run isDigit (by decide) 0 (by omega)] at h1
    have := run_le isDigit ⟨u.toArray⟩ 0 (by omega)
    rw [hus] at this
    omega
  · unfold among at h1
    rw [List.any_eq_true] at h1
    obtain ⟨y, hy, he⟩ := h1
    rw [beq_iff_eq, ByteArray.toList_eq, ByteArray.toList_eq] at he
    rw [show t.text = y from ByteArray.ext (Array.toList_inj.1 he)] at hm
    exact sgs_nl y hy hm
  · unfold isKw at h1
    rw [List.any_eq_true] at h1
    obtain ⟨y, hy, he⟩ := h1
    rw [← beq_toList, beq_iff_eq, ByteArray.toList_eq, ByteArray.toList_eq] at he
    rw [show t.text = y from ByteArray.ext (Array.toList_inj.1 he)] at hm
    exact kws_nl y hy hm
where kws_nl : ∀ x ∈ kws, (10 : UInt8) ∉ x.data.toList := by decide +kernel

end Go.Proofs.YtfnhjdehlikbaaaGreatDoor.Lx

/- What Set and Flat write is cut as it was (towards LexSets). -/
namespace Go.Proofs.YtfnhjdehlikbaaaGreatDoor.Lx
open Go.Proofs.YtfnhjdehlikbaaaGreatDoorW.PrintWords

def gapF (i : Nat) : List UInt8 := if i = 0 then [] else [32]
def gapS (l : List Tok) (i : Nat) : List UInt8 := List.replicate (gapA l i).toNat 10 ++ List.replicate (gapB l i).toNat 32
theorem pre_flat (l : List Tok) : ∀ n, n ≤ l.length → pre gapF l n = flatT (l.take n) := by
  intro n
  induction n with
  | zero => intro _; rfl
  | succ n ih =>
    intro hn
    have hlt : n < l.length := by omega
    rw [pre, ih (by omega), flatT_succ l n hlt]
    unfold txt gapF
    rw [List.getElem?_eq_getElem hlt, Option.getD_some]
    by_cases h : n = 0
    · rw [if_pos h, if_neg (by omega), List.nil_append]
    · rw [if_neg h, if_pos (by omega), List.append_assoc]
theorem pre_set (l : List Tok) : ∀ n, pre (gapS l) l n = setS l n := by
  intro n
  induction n with
  | zero => rfl
  | succ n ih => rw [pre, ih, setS]; unfold pieceS gapS txt; rfl
/-- The tokens of the text with blanks. -/
theorem flat_raws {l : List Tok} (hw : ∀ t ∈ l, WfT t) (hz : (flatT l).length ≤ 65536) (hl : l.length ≤ 4000) : ∃ m, rawF ⟨(flatT l).toArray⟩ = (m, 0, 0) ∧ SameN m l := by
  obtain ⟨T, hT⟩ : ∃ T : ByteArray, T = ⟨(flatT l).toArray⟩ := ⟨_, rfl⟩
  have hd : T.data.toList = pre gapF l l.length := by rw [hT, pre_flat l _ (Nat.le_refl _), List.take_of_length_le (Nat.le_refl _)]
  have h := rawTo_glue (G := gapF) hw hd (fun i b hb => by
    unfold gapF at hb
    split at hb
    · simp at hb
    · simp at hb; exact .inr hb) (fun i hi hg => by unfold gapF at hg; rw [if_neg (by omega)] at hg; cases hg) l.length 0 (by omega)
  rw [← hT]
  have hs : T.size ≤ 65536 := by rw [hT, flat_size]; exact hz
  refine ⟨_, rawTo_fin h hs (by rw [put_len]; exact hl), by rw [put_len], fun k a b ha hb => ?_⟩
  have hk : k < l.length := (List.getElem?_eq_some_iff.1 hb).1
  rw [put_get _ _ _ _ _ _ hk, Nat.zero_add, hb] at ha
  injection ha with ha
  rw [← ha]
  exact ⟨rfl, rfl, rfl⟩
theorem adv_lines (k : Nat) : ∀ p : Int × Int, adv (List.replicate k 10) p = (p.1 + k, if k = 0 then p.2 else 0) := by
  induction k with
  | zero => intro p; simp [adv]
  | succ k ih =>
    intro p
    rw [List.replicate_succ]
    simp only [adv, if_true]
    rw [ih]
    refine Prod.ext (by simp only; omega) ?_
    show (if k = 0 then (0 : Int) else 0) = if k + 1 = 0 then p.2 else 0
    rw [if_neg (Nat.succ_ne_zero k)]
    split <;> rfl
theorem adv_set {l : List Tok} (hg : GoodL l) : ∀ i, i ≤ l.length → adv (setS l i) (0, 0) = ((prevT l i).line, (prevT l i).col + (prevT l i).text.size) ∧ (∀ h : i < l.length, adv (setS l i ++ gapS l i) (0, 0) = (l[i].line, l[i].col)) := by
  intro i
  induction i with
  | zero =>
    intro _
    refine ⟨rfl, fun h => ?_⟩
    exact gap_pos hg h rfl
  | succ i ih =>
    intro hi
    have hlt : i < l.length := by omega
    obtain ⟨_, h2⟩ := ih (by omega)
    have h3 := h2 hlt
    have h4 : adv (setS l (i + 1)) (0, 0) = ((prevT l (i + 1)).line, (prevT l (i + 1)).col + (prevT l (i + 1)).text.size) := by
      have e : setS l (i + 1) = (setS l i ++ gapS l i) ++ l[i].text.data.toList := by
        rw [setS]
        unfold pieceS gapS
        rw [List.getElem?_eq_getElem hlt, Option.getD_some]
        simp only [List.append_assoc]
      rw [e, adv_append, h3, adv_line _ (wf_line (goodL_wf hg _ (List.getElem_mem hlt))), prevT_succ hlt, len_data]
    refine ⟨h4, fun h => ?_⟩
    exact gap_pos hg h h4
where
  gap_pos {l : List Tok} (hg : GoodL l) {i : Nat} (h : i < l.length) (h4 : adv (setS l i) (0, 0) = ((prevT l i).line, (prevT l i).col + (prevT l i).text.size)) : adv (setS l i ++ gapS l i) (0, 0) = (l[i].line, l[i].col) := by
    obtain ⟨p1, p2, _, _⟩ := gaps_good hg h
    have hga : gapA l i = l[i].line - (prevT l i).line := by unfold gapA; rw [List.getElem?_eq_getElem h]; rfl
    have hgb : gapB l i = if gapA l i = 0 then l[i].col - ((prevT l i).col + (prevT l i).text.size) else l[i].col := by unfold gapB; rw [List.getElem?_eq_getElem h]; rfl
    rw [adv_append, h4]
    unfold gapS
    rw [adv_append, adv_lines, adv_line _ (noNl_rep _), List.length_replicate]
    simp only
    by_cases hz : gapA l i = 0
    · rw [if_pos (by omega)]
      rw [if_pos hz] at hgb
      exact Prod.ext (by simp only; omega) (by simp only; omega)
    · rw [if_neg (by omega)]
      rw [if_neg hz] at hgb
      exact Prod.ext (by simp only; omega) (by simp only; omega)
/-- The tokens of the text that has them in their places. -/
theorem set_raws {l : List Tok} (hg : GoodL l) (hz : (setS l l.length).length ≤ 65536) (hl : l.length ≤ 4000)
    (hA : ∀ i, i + 1 < l.length → gapS l (i + 1) = [] → ∀ c r, txt l (i + 1) = c :: r → Stop (l[i]?.getD tokZ) c) :
    ∃ m, rawF ⟨(setS l l.length).toArray⟩ = (m, 0, 0) ∧ SameN m l ∧ ∀ (k : Nat) a b, m[k]? = some a → l[k]? = some b → a.line = b.line ∧ a.col = b.col := by
  obtain ⟨T, hT⟩ : ∃ T : ByteArray, T = ⟨(setS l l.length).toArray⟩ := ⟨_, rfl⟩
  have hd : T.data.toList = pre (gapS l) l l.length := by rw [hT, pre_set]
  have h := rawTo_glue (G := gapS l) (fun t ht => goodL_wf hg t ht) hd (fun i b hb => by
    unfold gapS at hb
    rcases List.mem_append.1 hb with hb | hb
    · exact .inl (List.eq_of_mem_replicate hb)
    · exact .inr (List.eq_of_mem_replicate hb)) hA l.length 0 (by omega)
  rw [← hT]
  have hs : T.size ≤ 65536 := by rw [hT, setS_size]; exact hz
  refine ⟨_, rawTo_fin h hs (by rw [put_len]; exact hl), ⟨by rw [put_len], fun k a b ha hb => ?_⟩, fun k a b ha hb => ?_⟩
  · have hk : k < l.length := (List.getElem?_eq_some_iff.1 hb).1
    rw [put_get _ _ _ _ _ _ hk, Nat.zero_add, hb] at ha
    injection ha with ha
    rw [← ha]
    exact ⟨rfl, rfl, rfl⟩
  · have hk : k < l.length := (List.getElem?_eq_some_iff.1 hb).1
    rw [put_get _ _ _ _ _ _ hk, Nat.zero_add, hb] at ha
    injection ha with ha
    rw [← ha]
    have hp : posOf T (((pre (gapS l) l k).length + (gapS l k).length : Nat) : Int) = (b.line, b.col) := by
      have h1 := (adv_set hg k (by omega)).2 hk
      have hbk : l[k] = b := by rw [List.getElem?_eq_getElem hk] at hb; injection hb
      rw [hbk] at h1
      rw [← h1]
      unfold posOf
      congr 1
      have h2 := pre_suf (gapS l) l (l.length - k) k
      rw [show k + (l.length - k) = l.length by omega] at h2
      obtain ⟨q, hq⟩ : ∃ q, l.length - k = q + 1 := ⟨l.length - k - 1, by omega⟩
      rw [hd, ← h2, hq, suf, Int.toNat_natCast, ← pre_set, ← List.append_assoc, ← List.length_append, List.take_left]
    show (posOf T _).1 = _ ∧ (posOf T _).2 = _
    rw [hp]
    exact ⟨rfl, rfl⟩

end Go.Proofs.YtfnhjdehlikbaaaGreatDoor.Lx

/- Tokens next to one another in a text: the second one's first byte stops the first (towards LexSets). -/
namespace Go.Proofs.YtfnhjdehlikbaaaGreatDoor.Lx
open Go.Proofs.YtfnhjdehlikbaaaGreatDoorW.PrintWords

theorem bt_nat (s : ByteArray) (i : Nat) (h : i < s.size) : bt s (i : Int) = ((s[i]'h).toNat : Int) := by
  rw [bt_list _ _ (by omega), Int.toNat_natCast]
  have : s.data.toList[i]? = some s[i] := by
    rw [Array.getElem?_toList]
    exact Array.getElem?_eq_getElem h
  rw [this]
  rfl
theorem run_endY (p : Int → Bool) (s : ByteArray) (a : Nat) (h : a + run p s a < s.size) : p (bt s ((a + run p s a : Nat) : Int)) = false := by
  rw [bt_nat s _ h]
  cases hp : p ((s[a + run p s a]'h).toNat : Int) with
  | false => rfl
  | true => exact absurd ((run_step p s a _ h (Nat.le_refl _)).1 hp) (Nat.lt_irrefl _)
/-- A path ends where no letter stands. -/
theorem wordsL_end (s : ByteArray) (a : Int) (h0 : 0 ≤ a) : ∀ (f : Nat) (n bad many : Int), 0 ≤ n → a + n ≤ s.size → s.size < a + n + f → a + (wordsL s a f n bad many).1 < s.size → isLetter (bt s (a + (wordsL s a f n bad many).1)) = false := by
  intro f
  induction f with
  | zero => intro n bad many h1 h2 h3; omega
  | succ f ih =>
    intro n bad many h1 h2 h3
    simp only [wordsL]
    have hr := run_le isLetter s (a + n).toNat (by omega)
    have he := run_endY isLetter s (a + n).toNat
    generalize run isLetter s (a + n).toNat = k at hr he ⊢
    split
    · rename_i hm
      have : a + (n + (k : Int)) + 1 < s.size := by
        unfold more at hm
        simp only [Bool.and_eq_true, decide_eq_true_eq] at hm
        exact hm.1
      exact ih _ _ _ (by omega) (by omega) (by omega)
    · intro hlt
      have e : a + (n + (k : Int)) = (((a + n).toNat + k : Nat) : Int) := by omega
      simp only at hlt ⊢
      rw [e] at hlt ⊢
      exact he (by omega)
theorem words_end (s : ByteArray) (a : Int) (h0 : 0 ≤ a) (ha : a ≤ s.size) (h : a + (words s a).1 < s.size) : isLetter (bt s (a + (words s a).1)) = false :=
  by
  unfold words at h ⊢
  exact wordsL_end s a h0 _ 0 (-1) 1 (by omega) (by omega) (by omega) h
theorem kind46 : kindOf 46 = 0 := by decide +kernel
/-- The longest sign takes what it can. -/
theorem longest_stop {x : ByteArray} {c : UInt8} {r : List UInt8} {y : ByteArray} (hy : y.data.toList = x.data.toList ++ c :: r) (hl : longest y = x) : SignStop x.data.toList c := by
  refine ⟨fun hx hc => ?_, fun hx hc => ?_⟩
  · have h1 : longest y = ⟨#[45, 62]⟩ := by
      unfold longest
      rw [sgs, List.find?_cons_of_pos]
      · rfl
      · unfold hasPrefix
        rw [hy, hx, hc]
        rfl
    rw [hl] at h1
    rw [h1] at hx
    cases hx
  · have h1 : longest y = ⟨#[61, 61]⟩ := by
      unfold longest
      rw [sgs, List.find?_cons_of_neg, List.find?_cons_of_pos]
      · rfl
      · unfold hasPrefix
        rw [hy, hx, hc]
        rfl
      · unfold hasPrefix
        rw [hy, hx, hc]
        simp [List.isPrefixOf]
    rw [hl] at h1
    rw [h1] at hx
    cases hx

end Go.Proofs.YtfnhjdehlikbaaaGreatDoor.Lx

/- Tokens next to one another in a text (towards LexSets). -/
namespace Go.Proofs.YtfnhjdehlikbaaaGreatDoor.Lx
open Go.Proofs.YtfnhjdehlikbaaaGreatDoorW.PrintWords

/-- What is cut at an index is stopped by the byte behind it, where a token begins there. -/
theorem next_stops {s : ByteArray} {p : Int} (h0 : 0 ≤ p) (hp : p < s.size) (hd : dash s p = false) {t : Tok} (ht : t = (nextOf s p (kindOf (bt s p))).1) (hk : kindOf (bt s p) ≠ 0) (hb : (nextOf s p (kindOf (bt s p))).2 < 0)
    (he : p + t.text.size < s.size) (hk2 : kindOf (bt s (p + t.text.size)) ≠ 0) {c : UInt8} (hc : bt s (p + t.text.size) = c.toNat) : Stop t c := by
  rcases kind_three s p hk with e | e | e
  · rw [e] at ht hb
    have ht : t = (nextWord s p).1 := ht
    obtain ⟨b1, b2, _, _⟩ := words_le s p h0 (by omega)
    have hsz : (t.text.size : Int) = (words s p).1 := by
      rw [ht]
      show ((s.extract p.toNat (p + (words s p).1).toNat).size : Int) = _
      rw [extract_size s _ _ (by omega) (by omega)]
      omega
    have hkd : t.kind = 1 ∨ t.kind = 4 := by
      rw [ht]
      show (if isKw _ = true then (4 : Int) else 1) = 1 ∨ (if isKw _ = true then (4 : Int) else 1) = 4
      split
      · exact .inr rfl
      · exact .inl rfl
    have hend := words_end s p h0 (by omega) (by rw [← hsz]; exact he)
    rw [← hsz, hc] at hend
    refine ⟨fun _ => ⟨hend, fun h => ?_⟩, fun h => by omega, fun h => by omega⟩
    rw [hc, h] at hk2
    exact hk2 kind46
  · rw [e] at ht hb
    have ht : t = (nextNum s p).1 := ht
    have hr := run_le isDigit s p.toNat (by omega)
    have hsz : t.text.size = run isDigit s p.toNat := by
      rw [ht]
      show (s.extract p.toNat (p + (run isDigit s p.toNat : Nat)).toNat).size = _
      rw [extract_size s _ _ (by omega) (by omega)]
      omega
    have hkd : t.kind = 2 := by rw [ht]; rfl
    have hend := run_endY isDigit s p.toNat (by rw [← hsz]; omega)
    rw [← hsz, show ((p.toNat + t.text.size : Nat) : Int) = p + t.text.size by omega, hc] at hend
    exact ⟨fun h => by omega, fun _ => hend, fun h => by omega⟩
  · rw [e] at ht hb
    have hwf := next_wf s p h0 hp hk (by rw [e]; exact hb)
    rw [e, ← ht] at hwf
    have ht : t = (nextSign s p).1 := ht
    have hll := longest_le (s.extract p.toNat s.size)
    have hes := extract_size s p.toNat s.size (by omega) (Nat.le_refl _)
    have hsz : t.text.size = (longest (s.extract p.toNat s.size)).size := by
      rw [ht]
      show (s.extract p.toNat (p + ((longest (s.extract p.toNat s.size)).size : Int)).toNat).size = _
      rw [extract_size s _ _ (by omega) (by omega)]
      omega
    have hkd : t.kind = 3 := by rw [ht]; rfl
    have hy : (s.extract p.toNat s.size).data.toList = s.data.toList.drop p.toNat := drop_extract s p.toNat
    have htx : t.text.data.toList = (s.data.toList.drop p.toNat).take t.text.size := by
      rw [hsz, ht]
      show (s.extract p.toNat (p + ((longest (s.extract p.toNat s.size)).size : Int)).toNat).data.toList = _
      rw [Lib.extract_data]
      congr 1
      omega
    have hcd : s.data.toList.drop (p.toNat + t.text.size) = c :: s.data.toList.drop (p.toNat + t.text.size + 1) := by
      have hlt : p.toNat + t.text.size < s.data.toList.length := by rw [len_data]; omega
      rw [List.drop_eq_getElem_cons hlt]
      congr 1
      have h1 := bt_nat s (p.toNat + t.text.size) (by omega)
      rw [show ((p.toNat + t.text.size : Nat) : Int) = p + t.text.size by omega, hc] at h1
      have h2 : c = s[p.toNat + t.text.size]'(by omega) := UInt8.toNat_inj.1 (by omega)
      rw [h2]
      rfl
    have hsplit : s.data.toList.drop p.toNat = t.text.data.toList ++ c :: s.data.toList.drop (p.toNat + t.text.size + 1) := by
      rw [htx, ← hcd, ← List.drop_drop, List.take_append_drop]
    have hlx : longest (s.extract p.toNat s.size) = t.text := by
      obtain ⟨x, hx, hxe⟩ : ∃ x, sgs.find? (fun x => hasPrefix (s.extract p.toNat s.size) x) = some x ∧ longest (s.extract p.toNat s.size) = x := by
        unfold longest at hsz ⊢
        cases hf : sgs.find? (fun x => hasPrefix (s.extract p.toNat s.size) x) with
        | none =>
          exfalso
          rw [hf] at hsz
          have := (next_alone hwf).1
          have h0 : (⟨#[]⟩ : ByteArray).size = 0 := rfl
          simp only [Option.getD_none] at hsz
          omega
        | some x => exact ⟨x, rfl, rfl⟩
      have hpre := List.find?_some hx
      unfold hasPrefix at hpre
      rw [hy, List.isPrefixOf_iff_prefix] at hpre
      obtain ⟨q, hq⟩ := hpre
      rw [hxe]
      have hxs : t.text.size = x.size := by rw [hsz, hxe]
      have : x.data.toList = t.text.data.toList := by
        rw [htx, ← hq, hxs, ← len_data, List.take_left]
      exact ByteArray.ext (Array.toList_inj.1 this)
    have hss := longest_stop (y := s.extract p.toNat s.size) (by rw [hy, hsplit]) hlx
    refine ⟨fun h => by omega, fun h => by omega, fun _ => ⟨hss, fun hx h45 => ?_⟩⟩
    have hs1 : t.text.size = 1 := by rw [← len_data, hx]; rfl
    have hbp : bt s p = 45 := by
      have h1 := bt_list s p h0
      have h2 : s.data.toList[p.toNat]? = some 45 := by
        have h3 := congrArg (fun l => l[0]?) hsplit
        simp only [List.getElem?_drop, Nat.add_zero] at h3
        rw [h3, hx]
        rfl
      rw [h1, h2]
      rfl
    have hbc : bt s (p + 1) = 45 := by
      rw [hs1] at hc
      rw [show p + 1 = p + ((1 : Nat) : Int) by omega, hc, h45]
      rfl
    unfold dash at hd
    rw [hbp, hbc, decide_eq_true (by omega)] at hd
    exact absurd hd (by decide)

end Go.Proofs.YtfnhjdehlikbaaaGreatDoor.Lx

/- Tokens one behind the other in a text: what lies between (towards LexSets). -/
namespace Go.Proofs.YtfnhjdehlikbaaaGreatDoor.Lx
open Go.Proofs.YtfnhjdehlikbaaaGreatDoorW.PrintWords

theorem layL_stops (s : ByteArray) : ∀ (f : Nat) (a : Int), 0 ≤ a → s.size < a + f → layL s f a < s.size → dash s (layL s f a) = false := by
  intro f
  induction f with
  | zero => intro a h0 h1 h2; simp only [layL] at h2; omega
  | succ f ih =>
    intro a h0 h1
    simp only [layL]
    split
    · rename_i hlt
      split
      · exact ih (a + 1) (by omega) (by omega)
      · split
        · rename_i hb hd
          have h1 : 0 < run (fun c => c != 10) s a.toNat := by
            have h2 := run_step (fun c => c != 10) s a.toNat 0 (by omega) (Nat.zero_le _)
            refine h2.1 ?_
            have h3 := bt_nat s (a.toNat + 0) (by omega)
            rw [show ((a.toNat + 0 : Nat) : Int) = a by omega] at h3
            rw [← h3, bne_iff_ne]
            exact fun e => hb (.inr e)
          exact ih _ (by omega) (by omega)
        · rename_i hb hd
          intro _
          simpa using hd
    · intro h; omega
theorem lay_stops (s : ByteArray) (a : Int) (h0 : 0 ≤ a) (h : lay s a < s.size) : dash s (lay s a) = false := layL_stops s _ a h0 (by omega) h
theorem adv_bound (l : List UInt8) : ∀ p : Int × Int, 0 ≤ p.2 → p.1 ≤ (adv l p).1 ∧ 0 ≤ (adv l p).2 ∧ ((adv l p).1 = p.1 → (adv l p).2 = p.2 + l.length) ∧ ((adv l p).1 ≠ p.1 → (adv l p).1 - p.1 + (adv l p).2 ≤ l.length) := by
  induction l with
  | nil => intro p h; simp [adv]; exact h
  | cons b l ih =>
    intro p h
    simp only [adv]
    split
    · obtain ⟨h1, h2, h3, h4⟩ := ih (p.1 + 1, 0) (Int.le_refl _)
      simp only at h1 h2 h3 h4
      simp only [List.length_cons]
      refine ⟨by omega, h2, fun e => by omega, fun _ => ?_⟩
      by_cases e : (adv l (p.1 + 1, 0)).1 = p.1 + 1
      · have := h3 e; omega
      · have := h4 e; omega
    · obtain ⟨h1, h2, h3, h4⟩ := ih (p.1, p.2 + 1) (by simp only; omega)
      simp only at h1 h2 h3 h4
      simp only [List.length_cons]
      exact ⟨h1, h2, fun e => by have := h3 e; omega, fun e => by have := h4 e; omega⟩
/-- Two tokens, one behind the other. -/
structure Pair (s : ByteArray) (t u : Tok) : Prop where
  fits : 0 ≤ t.at_ ∧ t.at_ + t.text.size ≤ u.at_ ∧ u.at_ < s.size
  line : u.line = (posOf s u.at_).1 ∧ u.col = (posOf s u.at_).2 ∧ t.line = (posOf s t.at_).1 ∧ t.col = (posOf s t.at_).2
  text : t.text = s.extract t.at_.toNat (t.at_ + t.text.size).toNat
  stop : u.at_ = t.at_ + t.text.size → ∀ c : UInt8, bt s u.at_ = c.toNat → Stop t c
theorem next_text (s : ByteArray) (p k : Int) (h0 : 0 ≤ p) (hp : p < s.size) : (nextOf s p k).1.text = s.extract p.toNat (p + (nextOf s p k).1.text.size).toNat := by
  have key : ∀ q : Int, 0 ≤ q → p + q ≤ s.size → s.extract p.toNat (p + q).toNat = s.extract p.toNat (p + (s.extract p.toNat (p + q).toNat).size).toNat := fun q h1 h2 => by
    rw [extract_size s _ _ (by omega) (by omega)]
    congr 1
    omega
  unfold nextOf
  split
  · obtain ⟨b1, b2, _, _⟩ := words_le s p h0 (by omega)
    exact key _ b1 b2
  · split
    · have hr := run_le isDigit s p.toNat (by omega)
      exact key _ (by omega) (by omega)
    · have hll := longest_le (s.extract p.toNat s.size)
      have hes := extract_size s p.toNat s.size (by omega) (Nat.le_refl _)
      exact key _ (by omega) (by omega)
theorem rawTo_pairs {s : ByteArray} {a : Int} {l : List Tok} (h : RawTo s a l) : 0 ≤ a → ∀ i t u, l[i]? = some t → l[i + 1]? = some u → Pair s t u := by
  induction h with
  | nil _ => intro _ i t u h1 _; simp at h1
  | @cons a l hlt hk hb hr ih =>
    intro h0 i t u h1 h2
    have hge : a ≤ lay s a := lay_ge s _ a
    have hfit := next_fits s (lay s a) (kindOf (bt s (lay s a))) (by omega) hlt
    cases i with
    | succ i => exact ih (by omega) i t u h1 h2
    | zero =>
      injection h1 with h1
      have hnt := next_text s (lay s a) (kindOf (bt s (lay s a))) (by omega) hlt
      have hpl := next_place s (lay s a) (kindOf (bt s (lay s a)))
      have hst := lay_stops s a h0 hlt
      rw [h1] at hr hfit hnt hpl
      have h1' := h1.symm
      generalize hp : lay s a = p at *
      obtain ⟨hat, hl1, hl2⟩ := hpl
      cases hr with
      | nil _ => simp at h2
      | cons hlt2 hk2 hb2 _ =>
        injection h2 with h2
        have hge2 : p + t.text.size ≤ lay s (p + t.text.size) := lay_ge s _ _
        have hpl2 := next_place s (lay s (p + t.text.size)) (kindOf (bt s (lay s (p + t.text.size))))
        rw [h2] at hpl2
        obtain ⟨hat2, hl3, hl4⟩ := hpl2
        refine ⟨⟨by omega, by omega, by omega⟩, ⟨by rw [hat2]; exact hl3, by rw [hat2]; exact hl4, by rw [hat]; exact hl1, by rw [hat]; exact hl2⟩, by rw [hat]; exact hnt, fun he c hc => ?_⟩
        rw [hat2] at he hc
        rw [hat] at he
        refine next_stops (by omega) hlt hst h1' hk hb (by omega) (by rw [← he]; exact hk2) (by rw [← he]; exact hc)

end Go.Proofs.YtfnhjdehlikbaaaGreatDoor.Lx

/- The raw tokens of a text, set in their places and flat, are cut as they were (LexSets' plain law). -/
namespace Go.Proofs.YtfnhjdehlikbaaaGreatDoor.Lx
open Go.Proofs.YtfnhjdehlikbaaaGreatDoorW.PrintWords

theorem posOf_more (s : ByteArray) (a b : Nat) (h : a ≤ b) : posOf s (b : Int) = adv ((s.data.toList.drop a).take (b - a)) (posOf s (a : Int)) := by
  unfold posOf
  rw [← adv_append, Int.toNat_natCast, Int.toNat_natCast]
  congr 1
  rw [← List.take_add]
  congr 1
  omega
/-- What lies between two tokens. -/
theorem Pair.mid {s : ByteArray} {t u : Tok} (h : Pair s t u) (hw : WfT t) : (u.line = t.line → u.col = t.col + t.text.size + (u.at_ - (t.at_ + t.text.size))) ∧ (u.line ≠ t.line → u.line - t.line + u.col ≤ u.at_ - (t.at_ + t.text.size)) := by
  obtain ⟨f1, f2, f3⟩ := h.fits
  obtain ⟨l1, l2, l3, l4⟩ := h.line
  have hc0 : 0 ≤ t.col := by
    rw [l4]
    unfold posOf
    exact (adv_bound _ (0, 0) (Int.le_refl _)).2.1
  obtain ⟨p, hp⟩ : ∃ p : Nat, t.at_ = (p : Int) := ⟨t.at_.toNat, by omega⟩
  obtain ⟨q, hq⟩ : ∃ q : Nat, u.at_ = (q : Int) := ⟨u.at_.toNat, by omega⟩
  have htx := h.text
  rw [hp] at htx l3 l4 f2 ⊢
  rw [hq] at l1 l2 f2 f3 ⊢
  have he : posOf s ((p + t.text.size : Nat) : Int) = (t.line, t.col + t.text.size) := by
    rw [posOf_more s p _ (by omega)]
    have h1 : (s.data.toList.drop p).take (p + t.text.size - p) = t.text.data.toList := by
      have h2 : t.text.data.toList = (s.extract (p : Int).toNat ((p : Int) + (t.text.size : Int)).toNat).data.toList := congrArg (fun x : ByteArray => x.data.toList) htx
      rw [h2, Lib.extract_data]
      rw [show ((p : Int)).toNat = p by omega, show ((p : Int) + (t.text.size : Int)).toNat = p + t.text.size by omega]
    rw [h1, adv_line _ (wf_line hw), ← l3, ← l4, len_data]
  have hm := posOf_more s (p + t.text.size) q (by omega)
  rw [he] at hm
  have hb := adv_bound ((s.data.toList.drop (p + t.text.size)).take (q - (p + t.text.size))) (t.line, t.col + t.text.size) (by simp only; omega)
  rw [← hm, ← l1, ← l2] at hb
  have hlen : ((s.data.toList.drop (p + t.text.size)).take (q - (p + t.text.size))).length = q - (p + t.text.size) := by
    rw [List.length_take, List.length_drop, len_data]
    omega
  rw [hlen] at hb
  obtain ⟨_, _, b3, b4⟩ := hb
  simp only at b3 b4
  exact ⟨fun e => by have := b3 e; omega, fun e => by have := b4 e; omega⟩
theorem sets_law {s : ByteArray} {l : List Tok} (h : rawF s = (l, 0, 0)) : (setS l l.length).length ≤ s.size ∧ lensT l ≤ s.size ∧ GoodL l ∧ l.length ≤ 4000 ∧ s.size ≤ 65536 ∧
    ∀ i, i + 1 < l.length → gapS l (i + 1) = [] → ∀ c r, txt l (i + 1) = c :: r → Stop (l[i]?.getD tokZ) c := by
  have hok := rawOk_all s
  unfold RawOk at hok
  rw [h] at hok
  obtain ⟨hg, hn⟩ := hok
  obtain ⟨hs, hr⟩ := rawTo_all (s := s) (by rw [h])
  rw [h] at hr
  simp only at hg hn hr
  have hpair := rawTo_pairs hr (Int.le_refl _)
  have hplace := hr.place (Int.le_refl _)
  have gl : ∀ i, (gapS l i).length = (gapA l i).toNat + (gapB l i).toNat := fun i => by unfold gapS; simp
  have hstep : ∀ i, (hi : i + 1 < l.length) → ((gapS l (i + 1)).length : Int) ≤ l[i + 1].at_ - (l[i].at_ + l[i].text.size) ∧ (gapS l (i + 1) = [] → l[i + 1].at_ = l[i].at_ + l[i].text.size) := fun i hi => by
    have hlt : i < l.length := by omega
    have hp := hpair i _ _ (List.getElem?_eq_getElem hlt) (List.getElem?_eq_getElem hi)
    obtain ⟨m1, m2⟩ := hp.mid (goodL_wf hg _ (List.getElem_mem hlt))
    obtain ⟨g1, g2, _, _⟩ := gaps_good hg hi
    have hga : gapA l (i + 1) = l[i + 1].line - l[i].line := by unfold gapA; rw [List.getElem?_eq_getElem hi, prevT_succ hlt]; rfl
    have hgb : gapB l (i + 1) = if gapA l (i + 1) = 0 then l[i + 1].col - (l[i].col + l[i].text.size) else l[i + 1].col := by unfold gapB; rw [List.getElem?_eq_getElem hi, prevT_succ hlt]; rfl
    have hle := gl (i + 1)
    by_cases hz : gapA l (i + 1) = 0
    · rw [if_pos hz] at hgb
      have := m1 (by omega)
      exact ⟨by omega, fun he => by
        have h0 := congrArg List.length he
        rw [hle] at h0
        simp at h0
        omega⟩
    · rw [if_neg hz] at hgb
      have := m2 (by omega)
      exact ⟨by omega, fun he => by
        have h0 := congrArg List.length he
        rw [hle] at h0
        simp at h0
        omega⟩
  have hsize : ∀ i, (hi : i < l.length) → ((setS l i).length : Int) + (gapS l i).length ≤ l[i].at_ ∧ (lensT (l.take i) : Int) ≤ l[i].at_ := by
    intro i
    induction i with
    | zero =>
      intro hi
      obtain ⟨p1, p2, p3, p4⟩ := hplace _ (List.getElem_mem hi)
      obtain ⟨g1, g2, _, _⟩ := gaps_good hg hi
      have hga : gapA l 0 = l[0].line := by unfold gapA; rw [List.getElem?_eq_getElem hi]; show l[0].line - 0 = _; omega
      have hgb : gapB l 0 = l[0].col := by
        unfold gapB
        rw [List.getElem?_eq_getElem hi]
        show (if gapA l 0 = 0 then l[0].col - (0 + ((0 : Nat) : Int)) else l[0].col) = l[0].col
        split
        · simp
        · rfl
      have hb := adv_bound (s.data.toList.take l[0].at_.toNat) (0, 0) (Int.le_refl _)
      have hpos : adv (s.data.toList.take l[0].at_.toNat) (0, 0) = (l[0].line, l[0].col) := Prod.ext p3.symm p4.symm
      rw [hpos] at hb
      have hlen : (s.data.toList.take l[0].at_.toNat).length = l[0].at_.toNat := by rw [List.length_take, len_data]; omega
      rw [hlen] at hb
      obtain ⟨_, _, b3, b4⟩ := hb
      simp only at b3 b4
      have hle := gl 0
      refine ⟨?_, by show ((0 : Nat) : Int) ≤ _; omega⟩
      show ((0 : Nat) : Int) + _ ≤ _
      by_cases hz : l[0].line = 0
      · have := b3 hz; omega
      · have := b4 hz; omega
    | succ i ih =>
      intro hi
      have hlt : i < l.length := by omega
      obtain ⟨i1, i2⟩ := ih hlt
      obtain ⟨s1, _⟩ := hstep i hi
      have hset : (setS l (i + 1)).length = (setS l i).length + ((gapS l i).length + l[i].text.size) := by
        rw [setS, List.length_append]
        unfold pieceS
        rw [List.getElem?_eq_getElem hlt, Option.getD_some, List.length_append, len_data]
        rfl
      have hlt2 := lensT_take hlt
      have hfit := (hpair i _ _ (List.getElem?_eq_getElem hlt) (List.getElem?_eq_getElem hi)).fits
      exact ⟨by omega, by omega⟩
  have hends : ∀ i, (hi : i < l.length) → (l[i].at_ + l[i].text.size : Int) ≤ s.size := fun i hi => rawTo_fits hr (Int.le_refl _) _ (List.getElem_mem hi)
  refine ⟨?_, ?_, hg, hn, hs, fun i hi hgap c r hc => ?_⟩
  · cases hln : l.length with
    | zero => exact Nat.zero_le _
    | succ n =>
      have hi : n < l.length := by omega
      have h1 := (hsize n hi).1
      have h2 := hends n hi
      have hset : (setS l (n + 1)).length = (setS l n).length + ((gapS l n).length + l[n].text.size) := by
        rw [setS, List.length_append]
        unfold pieceS
        rw [List.getElem?_eq_getElem hi, Option.getD_some, List.length_append, len_data]
        rfl
      omega
  · cases hln : l.length with
    | zero => rw [List.eq_nil_of_length_eq_zero hln]; exact Nat.zero_le _
    | succ n =>
      have hi : n < l.length := by omega
      have h1 := (hsize n hi).2
      have h2 := hends n hi
      have h3 := lensT_take hi
      rw [List.take_of_length_le (by omega)] at h3
      omega
  · have hlt : i < l.length := by omega
    rw [List.getElem?_eq_getElem hlt, Option.getD_some]
    have hp := hpair i _ _ (List.getElem?_eq_getElem hlt) (List.getElem?_eq_getElem hi)
    have hat := (hstep i hi).2 hgap
    refine hp.stop hat c ?_
    exact rawTo_first hr (Int.le_refl _) (List.getElem_mem hi) (by unfold txt at hc; rw [List.getElem?_eq_getElem hi, Option.getD_some] at hc; exact hc)
where
  rawTo_fits {s : ByteArray} {a : Int} {l : List Tok} (h : RawTo s a l) : 0 ≤ a → ∀ t ∈ l, t.at_ + t.text.size ≤ s.size := by
    induction h with
    | nil _ => intro _ t ht; cases ht
    | @cons a l hlt hk hb hr ih =>
      intro h0 t ht
      have hge : a ≤ lay s a := lay_ge s _ a
      rcases List.mem_cons.1 ht with rfl | ht
      · have hfit := next_fits s (lay s a) (kindOf (bt s (lay s a))) (by omega) hlt
        have hpl := next_place s (lay s a) (kindOf (bt s (lay s a)))
        rw [hpl.1]
        omega
      · exact ih (by omega) t ht
  rawTo_first {s : ByteArray} {a : Int} {l : List Tok} (h : RawTo s a l) : 0 ≤ a → ∀ {t : Tok}, t ∈ l → ∀ {c : UInt8} {r : List UInt8}, t.text.data.toList = c :: r → bt s t.at_ = c.toNat := by
    induction h with
    | nil _ => intro _ t ht; cases ht
    | @cons a l hlt hk hb hr ih =>
      intro h0 t ht c r hc
      have hge : a ≤ lay s a := lay_ge s _ a
      rcases List.mem_cons.1 ht with rfl | ht
      · have hpl := next_place s (lay s a) (kindOf (bt s (lay s a)))
        have hnt := next_text s (lay s a) (kindOf (bt s (lay s a))) (by omega) hlt
        rw [hpl.1]
        rw [hnt, Lib.extract_data] at hc
        rw [bt_list _ _ (by omega)]
        have h1 := congrArg (fun l => l[0]?) hc
        simp only [List.getElem?_take, List.getElem?_drop, Nat.add_zero, List.getElem?_cons_zero] at h1
        split at h1
        · rw [h1]; rfl
        · cases h1
      · exact ih (by omega) ht hc

end Go.Proofs.YtfnhjdehlikbaaaGreatDoor.Lx

/- Each raw token is what the text has at its index, its line and its column (LexSets' plain law). -/
namespace Go.Proofs.YtfnhjdehlikbaaaGreatDoor.Lx
open Go.Proofs.YtfnhjdehlikbaaaGreatDoorW.PrintWords

theorem idxG_of (k : Nat) : ∀ (l : List UInt8) (p : Int × Int) (i : Int), k ≤ l.length → 0 ≤ p.2 → idxG (adv (l.take k) p).1 (adv (l.take k) p).2 p l i = (i + k, 0) := by
  induction k with
  | zero =>
    intro l p i _ _
    simp only [List.take_zero, adv]
    rw [idxG_hit]
    simp
  | succ k ih =>
    intro l p i hk h0
    cases l with
    | nil => simp at hk
    | cons b l =>
      have hb := adv_bound ((b :: l).take (k + 1)) p h0
      have hlen : ((b :: l).take (k + 1)).length = k + 1 := by rw [List.length_take]; omega
      rw [hlen] at hb
      obtain ⟨b1, b2, b3, b4⟩ := hb
      obtain ⟨a, c⟩ := p
      simp only at b1 b2 b3 b4 h0
      rw [idxG_miss b l i (by
        rintro ⟨e1, e2⟩
        have := b3 e1.symm
        omega)]
      have h1 : (b :: l).take (k + 1) = b :: l.take k := rfl
      rw [h1]
      simp only [adv]
      have := ih l (if b = 10 then (a + 1, 0) else (a, c + 1)) (i + 1) (by simp at hk; omega) (by split <;> simp <;> omega)
      rw [this]
      refine Prod.ext ?_ rfl
      simp only
      omega
theorem tok_places {s : ByteArray} {l : List Tok} (h : rawF s = (l, 0, 0)) {t : Tok} (ht : t ∈ l) :
    placeF s t.at_ = (t.line, t.col, 0) ∧ indexF s t.line t.col = (t.at_, 0) ∧ hasPrefix (s.extract t.at_.toNat s.size) t.text = true ∧ 0 ≤ t.at_ ∧ t.at_ ≤ s.size := by
  obtain ⟨hs, hr⟩ := rawTo_all (s := s) (by rw [h])
  rw [h] at hr
  simp only at hr
  obtain ⟨p1, p2, p3, p4⟩ := hr.place (Int.le_refl _) t ht
  refine ⟨?_, ?_, ?_, p1, by omega⟩
  · unfold placeF
    rw [if_neg (by omega), if_neg (by omega), p3, p4]
  · rw [indexF_steps s _ _ (by omega)]
    have h1 := idxG_of t.at_.toNat s.data.toList (0, 0) 0 (by rw [len_data]; omega) (Int.le_refl _)
    have e1 : (adv (s.data.toList.take t.at_.toNat) (0, 0)).1 = t.line := p3.symm
    have e2 : (adv (s.data.toList.take t.at_.toNat) (0, 0)).2 = t.col := p4.symm
    rw [e1, e2] at h1
    rw [h1]
    refine Prod.ext ?_ rfl
    simp only
    omega
  · unfold hasPrefix
    rw [drop_extract, List.isPrefixOf_iff_prefix, tok_text hr (Int.le_refl _) ht]
    exact List.take_prefix _ _
where
  tok_text {s : ByteArray} {a : Int} {l : List Tok} (h : RawTo s a l) : 0 ≤ a → ∀ {t : Tok}, t ∈ l → t.text.data.toList = (s.data.toList.drop t.at_.toNat).take t.text.size := by
    induction h with
    | nil _ => intro _ t ht; cases ht
    | @cons a l hlt hk hb hr ih =>
      intro h0 t ht
      have hge : a ≤ lay s a := lay_ge s _ a
      rcases List.mem_cons.1 ht with rfl | ht
      · have hpl := next_place s (lay s a) (kindOf (bt s (lay s a)))
        have hnt := next_text s (lay s a) (kindOf (bt s (lay s a))) (by omega) hlt
        rw [hpl.1]
        generalize (nextOf s (lay s a) (kindOf (bt s (lay s a)))).1 = t at hnt ⊢
        have h2 : t.text.data.toList = (s.extract (lay s a).toNat (lay s a + (t.text.size : Int)).toNat).data.toList := congrArg (fun x : ByteArray => x.data.toList) hnt
        rw [h2, Lib.extract_data]
        congr 1
        omega
      · exact ih (by omega) ht

end Go.Proofs.YtfnhjdehlikbaaaGreatDoor.Lx

/- LexSets' plain law, as the walk wants it. -/
namespace Go.Proofs.YtfnhjdehlikbaaaGreatDoor.Lx
open Go.Proofs.YtfnhjdehlikbaaaGreatDoorW.PrintWords

theorem rawF_okay {s : ByteArray} (h : (rawF s).2.2 = 0) : rawF s = ((rawF s).1, 0, 0) := by
  obtain ⟨hs, hr⟩ := rawTo_all h
  exact rawTo_fin hr hs (rawOk_all s).2
theorem sameN_bare {m l : List Tok} (h : SameN m l) : m.map tokBare = l.map tokBare := by
  refine List.ext_getElem? fun i => ?_
  rw [List.getElem?_map, List.getElem?_map]
  by_cases hi : i < m.length
  · have hi2 : i < l.length := by rw [← h.1]; exact hi
    have h9 := h.2 i _ _ (List.getElem?_eq_getElem hi) (List.getElem?_eq_getElem hi2)
    rw [List.getElem?_eq_getElem hi, List.getElem?_eq_getElem hi2]
    show some (tokBare m[i]) = some (tokBare l[i])
    unfold tokBare
    rw [h9.1, h9.2.1, h9.2.2]
  · rw [List.getElem?_eq_none (by omega), List.getElem?_eq_none (by rw [← h.1]; omega)]
/-- What Set and Flat return for the raw tokens of a text, and what is cut there. -/
theorem sets_all {s : ByteArray} (hs : s.size ≤ 60000) (h : (rawF s).2.2 = 0) : ∃ S F : ByteArray, ∃ m m2 : List Tok, setR (rawF s).1 = (S, 0) ∧ flatR (rawF s).1 = (F, 0) ∧ S.size ≤ 65536 ∧ F.size ≤ 65536 ∧ rawF S = (m, 0, 0) ∧ rawF F = (m2, 0, 0) ∧
    m.length = (rawF s).1.length ∧ m2.length = (rawF s).1.length ∧ m.map tokBare = (rawF s).1.map tokBare ∧ m2.map tokBare = (rawF s).1.map tokBare ∧
    (∀ (k : Nat) a b, m[k]? = some a → (rawF s).1[k]? = some b → a.line = b.line ∧ a.col = b.col) := by
  have hr := rawF_okay h
  generalize (rawF s).1 = l at hr ⊢
  obtain ⟨h1, h2, hg, hn, hs2, hA⟩ := sets_law hr
  have hw : ∀ t ∈ l, WfT t := fun t ht => goodL_wf hg t ht
  have hz : (setS l l.length).length ≤ 65536 := by omega
  have hzf : (flatT l).length ≤ 65536 := by rw [flatT_len]; omega
  obtain ⟨m, m1, m3, m4⟩ := set_raws hg hz hn hA
  obtain ⟨m2, n1, n3⟩ := flat_raws hw hzf hn
  have he := errL_good hg hn
  have hsz : (⟨(setS l l.length).toArray⟩ : ByteArray).size = (setS l l.length).length := setS_size l _
  have hfz : (⟨(flatT l).toArray⟩ : ByteArray).size = (flatT l).length := flat_size l
  have hmw : ∀ {T : ByteArray} {q : List Tok}, rawF T = (q, 0, 0) → ∀ t ∈ q, WfT t := fun {T q} hq t ht => by
    have hok := (rawOk_all T).1
    rw [hq] at hok
    exact goodL_wf hok t ht
  have hset : setR l = (⟨(setS l l.length).toArray⟩, 0) := by
    unfold setR
    rw [if_pos (by rw [he])]
    exact tellF_good (by rw [hsz]; omega) (by rw [m1]; exact ⟨rfl, (sameN_iff (hmw m1) hw).1 m3⟩)
  have hflat : flatR l = (⟨(flatT l).toArray⟩, 0) := by
    unfold flatR
    rw [if_pos (by rw [he])]
    exact tellF_good (by rw [hfz]; omega) (by rw [n1]; exact ⟨rfl, (sameN_iff (hmw n1) hw).1 n3⟩)
  exact ⟨_, _, m, m2, hset, hflat, by rw [hsz]; exact hz, by rw [hfz]; exact hzf, m1, n1, m3.1, n3.1, sameN_bare m3, sameN_bare n3, m4⟩

end Go.Proofs.YtfnhjdehlikbaaaGreatDoor.Lx

