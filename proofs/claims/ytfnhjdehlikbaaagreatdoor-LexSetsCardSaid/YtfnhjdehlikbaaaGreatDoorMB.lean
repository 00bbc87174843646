import Derived.Test.YtfnhjdehlikbaaaGreatDoorMA
import Derived.Test.YtfnhjdehlikbaaaGreatDoorM7
import Derived.Test.YtfnhjdehlikbaaaGreatDoorM4
import Derived.Test.YtfnhjdehlikbaaaGreatDoorM5
import Derived.Lib.Join
set_option linter.unusedVariables false
set_option linter.unusedSimpArgs false
/- A text behind another one: what is cut in it is cut as in the text alone, moved. -/
namespace Go.Proofs.YtfnhjdehlikbaaaGreatDoor.Lx
open Go.Proofs.YtfnhjdehlikbaaaGreatDoorW.PrintWords

/-- A text with bytes ahead of it. -/
structure Behind (p : List UInt8) (s s' : ByteArray) : Prop where
  data : s'.data.toList = p ++ s.data.toList

/-- A token in another place. -/
def Tok.moved (t : Tok) (a : Int) (pos : Int × Int) : Tok := { t with at_ := a, line := pos.1, col := pos.2 }

section
variable {p : List UInt8} {s s' : ByteArray}
theorem Behind.size (h : Behind p s s') : s'.size = p.length + s.size := by
  have := congrArg List.length h.data
  rw [len_data, List.length_append, len_data] at this
  exact this
theorem Behind.byte (h : Behind p s s') (i : Int) (h0 : 0 ≤ i) : bt s' (p.length + i) = bt s i := by
  rw [bt_list _ _ (by omega), bt_list _ _ h0, h.data, List.getElem?_append_right (by omega)]
  rw [show ((p.length : Int) + i).toNat - p.length = i.toNat by omega]
theorem Behind.drop (h : Behind p s s') (a : Nat) : s'.data.toList.drop (p.length + a) = s.data.toList.drop a := by
  rw [h.data, ← List.drop_drop, List.drop_left]
theorem Behind.run (h : Behind p s s') (q : Int → Bool) (a : Nat) : Lx.run q s' (p.length + a) = Lx.run q s a := by
  unfold Lx.run
  rw [h.drop]
theorem Behind.more (h : Behind p s s') (i : Int) (h0 : 0 ≤ i) : Lx.more s' (p.length + i) = Lx.more s i := by
  have hz := h.size
  unfold Lx.more
  rw [h.byte i h0, show (p.length : Int) + i + 1 = p.length + (i + 1) by omega, h.byte (i + 1) (by omega)]
  congr 1
  by_cases h1 : i + 1 < s.size
  · rw [decide_eq_true h1, decide_eq_true (by omega)]
  · rw [decide_eq_false h1, decide_eq_false (by omega)]
theorem Behind.wordsL (h : Behind p s s') (a : Int) (ha : 0 ≤ a) : ∀ (f f' : Nat) (n bad many : Int), 0 ≤ n → a + n ≤ s.size → s.size < a + n + f → s.size < a + n + f' → Lx.wordsL s' (p.length + a) f' n bad many = Lx.wordsL s a f n bad many := by
  intro f
  induction f with
  | zero => intro f' n bad many h1 h2 h3; omega
  | succ f ih =>
    intro f' n bad many h1 h2 h3 h4
    cases f' with
    | zero => omega
    | succ f' =>
      simp only [Lx.wordsL]
      have e : ((p.length : Int) + a + n).toNat = p.length + (a + n).toNat := by omega
      rw [e, h.run isLetter _]
      have hr := run_le isLetter s (a + n).toNat (by omega)
      generalize Lx.run isLetter s (a + n).toNat = k at hr ⊢
      rw [show (p.length : Int) + a + (n + (k : Int)) = p.length + (a + (n + k)) by omega, h.more _ (by omega)]
      split
      · rename_i hm
        have : a + (n + (k : Int)) + 1 < s.size := by
          unfold Lx.more at hm
          simp only [Bool.and_eq_true, decide_eq_true_eq] at hm
          exact hm.1
        exact ih f' _ _ _ (by omega) (by omega) (by omega) (by omega)
      · rfl
theorem Behind.words (h : Behind p s s') (a : Int) (h0 : 0 ≤ a) (ha : a ≤ s.size) : Lx.words s' (p.length + a) = Lx.words s a := by
  have hz := h.size
  exact h.wordsL a h0 _ _ 0 (-1) 1 (by omega) (by omega) (by omega) (by omega)
theorem Behind.extract (h : Behind p s s') (a b : Nat) : s'.extract (p.length + a) (p.length + b) = s.extract a b := by
  have e : (s'.extract (p.length + a) (p.length + b)).data.toList = (s.extract a b).data.toList := by
    rw [Lib.extract_data, Lib.extract_data, h.drop, show p.length + b - (p.length + a) = b - a by omega]
  exact ByteArray.ext (Array.toList_inj.1 e)
theorem Behind.extract_end (h : Behind p s s') (a : Nat) : s'.extract (p.length + a) s'.size = s.extract a s.size := by
  rw [h.size, h.extract]
theorem Behind.posOf (h : Behind p s s') (a : Int) (h0 : 0 ≤ a) : Lx.posOf s' (p.length + a) = adv (s.data.toList.take a.toNat) (adv p (0, 0)) := by
  unfold Lx.posOf
  rw [h.data, show ((p.length : Int) + a).toNat = p.length + a.toNat by omega, List.take_length_add_append, adv_append]
theorem Behind.nextOf (h : Behind p s s') (a k : Int) (h0 : 0 ≤ a) (ha : a < s.size) :
    Lx.nextOf s' (p.length + a) k = ((Lx.nextOf s a k).1.moved (p.length + a) (Lx.posOf s' (p.length + a)), (Lx.nextOf s a k).2) := by
  have hw := words_le s a h0 (by omega)
  have e0 : ((p.length : Int) + a).toNat = p.length + a.toNat := by omega
  unfold Lx.nextOf
  split
  · unfold Lx.nextWord
    simp only [Tok.moved]
    rw [h.words a h0 (by omega), e0, show ((p.length : Int) + a + (Lx.words s a).1).toNat = p.length + (a + (Lx.words s a).1).toNat by omega, h.extract]
  · split
    · unfold Lx.nextNum
      simp only [Tok.moved]
      rw [e0, h.run, h.byte a h0, show ((p.length : Int) + a + (Lx.run isDigit s a.toNat : Nat)).toNat = p.length + (a + (Lx.run isDigit s a.toNat : Nat)).toNat by omega, h.extract]
    · unfold Lx.nextSign
      simp only [Tok.moved]
      rw [e0, h.extract_end, show ((p.length : Int) + a + ((longest (s.extract a.toNat s.size)).size : Int)).toNat = p.length + (a + ((longest (s.extract a.toNat s.size)).size : Int)).toNat by omega, h.extract]
theorem Behind.dash (h : Behind p s s') (a : Int) (h0 : 0 ≤ a) : Lx.dash s' (p.length + a) = Lx.dash s a := by
  have hz := h.size
  unfold Lx.dash
  rw [h.byte a h0, show (p.length : Int) + a + 1 = p.length + (a + 1) by omega, h.byte (a + 1) (by omega)]
  congr 1
  by_cases h1 : a + 1 < s.size
  · rw [decide_eq_true h1, decide_eq_true (by omega)]
  · rw [decide_eq_false h1, decide_eq_false (by omega)]
theorem Behind.layL (h : Behind p s s') : ∀ (f f' : Nat) (a : Int), 0 ≤ a → a ≤ s.size → s.size < a + f → s.size < a + f' → Lx.layL s' f' (p.length + a) = p.length + Lx.layL s f a := by
  have hz := h.size
  intro f
  induction f with
  | zero => intro f' a h0 h1 h2; omega
  | succ f ih =>
    intro f' a h0 h1 h2 h3
    cases f' with
    | zero => omega
    | succ f' =>
      simp only [Lx.layL]
      by_cases hlt : a < s.size
      · rw [if_pos hlt, if_pos (show (p.length : Int) + a < s'.size by omega), h.byte a h0, h.dash a h0]
        split
        · rw [show (p.length : Int) + a + 1 = p.length + (a + 1) by omega]
          exact ih f' (a + 1) (by omega) (by omega) (by omega) (by omega)
        · split
          · rename_i hd
            have hr := run_le (fun c => c != 10) s a.toNat (by omega)
            have hr1 := dash_run s a h0 hd
            rw [show ((p.length : Int) + a).toNat = p.length + a.toNat by omega, h.run]
            generalize Lx.run (fun c => c != 10) s a.toNat = k at hr hr1 ⊢
            rw [show (p.length : Int) + a + (k : Int) = p.length + (a + k) by omega]
            exact ih f' _ (by omega) (by omega) (by omega) (by omega)
          · rfl
      · rw [if_neg hlt, if_neg (show ¬ (p.length : Int) + a < s'.size by omega)]
theorem Behind.lay (h : Behind p s s') (a : Int) (h0 : 0 ≤ a) (ha : a ≤ s.size) : Lx.lay s' (p.length + a) = p.length + Lx.lay s a := by
  have hz := h.size
  exact h.layL _ _ a h0 ha (by omega) (by omega)
end

/-- The raw tokens of a text from an index on, where it is cut right. -/
inductive RawTo (s : ByteArray) : Int → List Tok → Prop
  | nil {a : Int} : lay s a = s.size → RawTo s a []
  | cons {a : Int} {l : List Tok} : lay s a < s.size → kindOf (bt s (lay s a)) ≠ 0 → (nextOf s (lay s a) (kindOf (bt s (lay s a)))).2 < 0 →
      RawTo s (lay s a + (nextOf s (lay s a) (kindOf (bt s (lay s a)))).1.text.size) l → RawTo s a ((nextOf s (lay s a) (kindOf (bt s (lay s a)))).1 :: l)

theorem rawTo_of (s : ByteArray) : ∀ (f : Nat) (a : Int) (acc : List Tok), 0 ≤ a → a ≤ s.size → (s.size : Int) + 2 ≤ a + f → (rawL s f a acc).2.2 = 0 → ∃ l, RawTo s a l ∧ (rawL s f a acc) = (acc ++ l, 0, 0) := by
  intro f
  induction f with
  | zero => intro a acc h0 h1 h2; omega
  | succ f ih =>
    intro a acc h0 h1 h2 h
    have hge : a ≤ lay s a := lay_ge s _ a
    have hle : lay s a ≤ s.size := layL_le s _ a h0 h1
    simp only [rawL] at h ⊢
    by_cases hend : lay s a = s.size
    · rw [if_pos hend]
      exact ⟨[], .nil hend, by simp⟩
    · rw [if_neg hend] at h ⊢
      have hnp := next_pos s (lay s a) (by omega) (by omega)
      have hnf := next_fits s (lay s a) (kindOf (bt s (lay s a))) (by omega) (by omega)
      by_cases hk : kindOf (bt s (lay s a)) = 0
      · rw [if_pos hk] at h
        simp at h
      · rw [if_neg hk] at h ⊢
        by_cases hm : (acc.length : Int) = 4000
        · rw [if_pos hm] at h
          simp at h
        · rw [if_neg hm] at h ⊢
          by_cases hb : 0 ≤ (nextOf s (lay s a) (kindOf (bt s (lay s a)))).2
          · rw [if_pos hb] at h
            simp at h
          · rw [if_neg hb] at h ⊢
            have hp := hnp hk (by omega)
            obtain ⟨l, h3, h4⟩ := ih _ _ (by omega) (by omega) (by omega) h
            exact ⟨_, .cons (by omega) hk (by omega) h3, by rw [h4, List.append_assoc]; rfl⟩
theorem rawTo_to {s : ByteArray} {a : Int} {l : List Tok} (h : RawTo s a l) : ∀ (f : Nat) (acc : List Tok), 0 ≤ a → a ≤ s.size → (s.size : Int) + 2 ≤ a + f → acc.length + l.length ≤ 4000 → rawL s f a acc = (acc ++ l, 0, 0) := by
  induction h with
  | nil hend =>
    intro f acc h0 h1 h2 h3
    cases f with
    | zero => omega
    | succ f => rw [rawL, if_pos hend, List.append_nil]
  | @cons a l hlt hk hb _ ih =>
    intro f acc h0 h1 h2 h3
    have hge : a ≤ lay s a := lay_ge s _ a
    have hnp := next_pos s (lay s a) (by omega) hlt hk hb
    have hnf := next_fits s (lay s a) (kindOf (bt s (lay s a))) (by omega) hlt
    cases f with
    | zero => omega
    | succ f =>
      rw [rawL, if_neg (by omega), if_neg hk, if_neg (by simp at h3; omega), if_neg (by omega), ih f _ (by omega) (by omega) (by omega) (by simp at h3 ⊢; omega), List.append_assoc]
      rfl
theorem rawTo_all {s : ByteArray} (h : (rawF s).2.2 = 0) : s.size ≤ 65536 ∧ RawTo s 0 (rawF s).1 := by
  unfold rawF at h ⊢
  split
  · rename_i hbig
    rw [if_pos hbig] at h
    simp at h
  · rename_i hbig
    rw [if_neg hbig] at h
    obtain ⟨l, h1, h2⟩ := rawTo_of s (s.size + 2) 0 [] (by omega) (by omega) (by omega) h
    unfold rawAll
    rw [h2]
    exact ⟨by omega, h1⟩
theorem rawTo_fin {s : ByteArray} {l : List Tok} (h : RawTo s 0 l) (hs : s.size ≤ 65536) (hl : l.length ≤ 4000) : rawF s = (l, 0, 0) := by
  unfold rawF
  rw [if_neg (by omega)]
  exact rawTo_to h (s.size + 2) [] (by omega) (by omega) (by omega) (by simpa using hl)

end Go.Proofs.YtfnhjdehlikbaaaGreatDoor.Lx

/- A text with a blank behind it; lines. -/
namespace Go.Proofs.YtfnhjdehlikbaaaGreatDoor.Lx
open Go.Proofs.YtfnhjdehlikbaaaGreatDoorW.PrintWords

/-- A text goes on with a blank. -/
def GoesBl (s s' : ByteArray) : Prop := ∃ r, s'.data.toList = s.data.toList ++ 32 :: r

theorem takeWhile_bl (p : UInt8 → Bool) (r : List UInt8) (hp : p 32 = false) : ∀ l : List UInt8, ((l ++ 32 :: r).takeWhile p).length = (l.takeWhile p).length := by
  intro l
  induction l with
  | nil => rw [List.nil_append, List.takeWhile_cons, hp]; rfl
  | cons b l ih =>
    rw [List.cons_append, List.takeWhile_cons, List.takeWhile_cons]
    split
    · rw [List.length_cons, List.length_cons, ih]
    · rfl
theorem prefix_bl (r : List UInt8) : ∀ (x l : List UInt8), 32 ∉ x → x.isPrefixOf (l ++ 32 :: r) = x.isPrefixOf l := by
  intro x
  induction x with
  | nil => intro l _; rfl
  | cons c x ih =>
    intro l hx
    have hc : c ≠ 32 := fun h => hx (by simp [h])
    cases l with
    | nil =>
      have : (c == 32) = false := beq_eq_false_iff_ne.2 hc
      simp [List.isPrefixOf, this]
    | cons d l =>
      simp only [List.cons_append, List.isPrefixOf]
      rw [ih l (fun h => hx (by simp [h]))]
section
variable {s s' : ByteArray}
theorem GoesBl.size (h : GoesBl s s') : s.size + 1 ≤ s'.size := by
  obtain ⟨r, hr⟩ := h
  have := congrArg List.length hr
  rw [len_data, List.length_append, len_data, List.length_cons] at this
  omega
theorem GoesBl.byte (h : GoesBl s s') (i : Int) (h0 : 0 ≤ i) (hi : i < s.size) : bt s' i = bt s i := by
  obtain ⟨r, hr⟩ := h
  rw [bt_list _ _ h0, bt_list _ _ h0, hr, List.getElem?_append_left (by rw [len_data]; omega)]
theorem GoesBl.bt_end (h : GoesBl s s') : bt s' s.size = 32 := by
  obtain ⟨r, hr⟩ := h
  rw [bt_list _ _ (by omega), hr, Int.toNat_natCast, List.getElem?_append_right (by rw [len_data]; exact Nat.le_refl _), len_data, Nat.sub_self]
  rfl
theorem GoesBl.run (h : GoesBl s s') (p : Int → Bool) (hp : p 32 = false) (a : Nat) (ha : a ≤ s.size) : Lx.run p s' a = Lx.run p s a := by
  obtain ⟨r, hr⟩ := h
  unfold Lx.run
  rw [hr, List.drop_append_of_le_length (by rw [len_data]; exact ha)]
  exact takeWhile_bl (fun b => p (b.toNat : Int)) r hp _
theorem GoesBl.more (h : GoesBl s s') (i : Int) (h0 : 0 ≤ i) (hi : i ≤ s.size) : Lx.more s' i = Lx.more s i := by
  have hz := h.size
  unfold Lx.more
  by_cases h1 : i + 1 < s.size
  · rw [decide_eq_true h1, decide_eq_true (by omega), h.byte i h0 (by omega), h.byte (i + 1) (by omega) (by omega)]
  · rw [decide_eq_false h1, Bool.false_and]
    by_cases h2 : i + 1 = s.size
    · have : isLetter (bt s' (i + 1)) = false := by rw [h2, h.bt_end]; decide
      rw [this, Bool.and_false, Bool.and_false]
    · obtain rfl : i = s.size := by omega
      have : (bt s' s.size == 46) = false := by rw [h.bt_end]; decide
      rw [this, Bool.false_and, Bool.and_false]
theorem GoesBl.wordsL (h : GoesBl s s') (a : Int) (ha : 0 ≤ a) : ∀ (f f' : Nat) (n bad many : Int), 0 ≤ n → a + n ≤ s.size → s.size < a + n + f → s.size < a + n + f' → Lx.wordsL s' a f' n bad many = Lx.wordsL s a f n bad many := by
  intro f
  induction f with
  | zero => intro f' n bad many h1 h2 h3; omega
  | succ f ih =>
    intro f' n bad many h1 h2 h3 h4
    cases f' with
    | zero => omega
    | succ f' =>
      simp only [Lx.wordsL]
      rw [h.run isLetter (by decide) _ (by omega)]
      have hr := run_le isLetter s (a + n).toNat (by omega)
      generalize Lx.run isLetter s (a + n).toNat = k at hr ⊢
      rw [h.more _ (by omega) (by omega)]
      split
      · rename_i hm
        have : a + (n + (k : Int)) + 1 < s.size := by
          unfold Lx.more at hm
          simp only [Bool.and_eq_true, decide_eq_true_eq] at hm
          exact hm.1
        exact ih f' _ _ _ (by omega) (by omega) (by omega) (by omega)
      · rfl
theorem GoesBl.words (h : GoesBl s s') (a : Int) (h0 : 0 ≤ a) (ha : a ≤ s.size) : Lx.words s' a = Lx.words s a := by
  have hz := h.size
  exact h.wordsL a h0 _ _ 0 (-1) 1 (by omega) (by omega) (by omega) (by omega)
theorem GoesBl.extract (h : GoesBl s s') (a b : Nat) (hb : b ≤ s.size) : s'.extract a b = s.extract a b := by
  obtain ⟨r, hr⟩ := h
  have e : (s'.extract a b).data.toList = (s.extract a b).data.toList := by
    rw [Lib.extract_data, Lib.extract_data, hr]
    by_cases ha : a ≤ s.size
    · rw [List.drop_append_of_le_length (by rw [len_data]; exact ha), List.take_append_of_le_length (by rw [List.length_drop, len_data]; omega)]
    · rw [show b - a = 0 by omega, List.take_zero, List.take_zero]
  exact ByteArray.ext (Array.toList_inj.1 e)
theorem GoesBl.posOf (h : GoesBl s s') (a : Int) (ha : a ≤ s.size) : Lx.posOf s' a = Lx.posOf s a := by
  obtain ⟨r, hr⟩ := h
  unfold Lx.posOf
  rw [hr, List.take_append_of_le_length (by rw [len_data]; omega)]
theorem GoesBl.nextWord (h : GoesBl s s') (a : Int) (h0 : 0 ≤ a) (ha : a ≤ s.size) : Lx.nextWord s' a = Lx.nextWord s a := by
  obtain ⟨b1, b2, _, _⟩ := words_le s a h0 ha
  unfold Lx.nextWord
  simp only
  rw [h.words a h0 ha, h.posOf a ha, h.extract _ _ (by omega)]
theorem GoesBl.nextNum (h : GoesBl s s') (a : Int) (h0 : 0 ≤ a) (ha : a < s.size) : Lx.nextNum s' a = Lx.nextNum s a := by
  have hr := run_le isDigit s a.toNat (by omega)
  unfold Lx.nextNum
  simp only
  rw [h.run isDigit (by decide) _ (by omega), h.posOf a (by omega), h.byte a h0 ha, h.extract _ _ (by omega)]
theorem sgs_bl : ∀ x ∈ sgs, (32 : UInt8) ∉ x.data.toList := by decide +kernel
theorem GoesBl.longest (h : GoesBl s s') (a : Nat) (ha : a ≤ s.size) : Lx.longest (s'.extract a s'.size) = Lx.longest (s.extract a s.size) := by
  unfold Lx.longest
  rw [find_congr sgs (q := fun x => hasPrefix (s.extract a s.size) x) (fun x hx => ?_)]
  obtain ⟨r, hr⟩ := h
  unfold hasPrefix
  rw [drop_extract, drop_extract, hr, List.drop_append_of_le_length (by rw [len_data]; exact ha)]
  exact prefix_bl r _ _ (sgs_bl x hx)
theorem GoesBl.nextSign (h : GoesBl s s') (a : Int) (h0 : 0 ≤ a) (ha : a ≤ s.size) : Lx.nextSign s' a = Lx.nextSign s a := by
  have hr := longest_le (s.extract a.toNat s.size)
  have hz := extract_size s a.toNat s.size (by omega) (Nat.le_refl _)
  unfold Lx.nextSign
  simp only
  rw [h.longest _ (by omega), h.posOf a ha, h.extract _ _ (by omega)]
theorem GoesBl.nextOf (h : GoesBl s s') (a k : Int) (h0 : 0 ≤ a) (ha : a < s.size) : Lx.nextOf s' a k = Lx.nextOf s a k := by
  unfold Lx.nextOf
  rw [h.nextWord a h0 (by omega), h.nextNum a h0 ha, h.nextSign a h0 (by omega)]
theorem GoesBl.dash (h : GoesBl s s') (a : Int) (h0 : 0 ≤ a) (ha : a < s.size) : Lx.dash s' a = Lx.dash s a := by
  have hz := h.size
  unfold Lx.dash
  by_cases h1 : a + 1 < s.size
  · rw [decide_eq_true h1, decide_eq_true (by omega), h.byte a h0 ha, h.byte (a + 1) (by omega) h1]
  · rw [decide_eq_false h1, Bool.false_and]
    have : (bt s' (a + 1) == 45) = false := by rw [show a + 1 = (s.size : Int) by omega, h.bt_end]; decide
    rw [this, Bool.and_false, Bool.and_false]
end

/-- Enough is enough. -/
theorem layL_fuel (s : ByteArray) : ∀ (f f' : Nat) (a : Int), 0 ≤ a → s.size < a + f → s.size < a + f' → layL s f' a = layL s f a := by
  intro f
  induction f with
  | zero =>
    intro f' a h0 h1 h2
    cases f' with
    | zero => rfl
    | succ f' => rw [layL, layL, if_neg (by omega)]
  | succ f ih =>
    intro f' a h0 h1 h2
    cases f' with
    | zero => rw [layL, layL, if_neg (by omega)]
    | succ f' =>
      simp only [layL]
      split
      · split
        · exact ih f' (a + 1) (by omega) (by omega) (by omega)
        · split
          · rename_i h3 h4 h5
            have hr1 := dash_run s a h0 h5
            generalize run (fun c => c != 10) s a.toNat = k at hr1 ⊢
            exact ih f' _ (by omega) (by omega) (by omega)
          · rfl
      · rfl
theorem lay_fuel (s : ByteArray) (f : Nat) (a : Int) (h0 : 0 ≤ a) (h : s.size < a + f) : layL s f a = lay s a := layL_fuel s _ _ a h0 (by omega) h
/-- What is blank is passed over. -/
theorem lay_step (s : ByteArray) (a : Int) (h0 : 0 ≤ a) (h : a < s.size) (hb : bt s a = 32 ∨ bt s a = 10) : lay s a = lay s (a + 1) := by
  have e : lay s a = layL s s.size (a + 1) := by
    unfold lay
    rw [layL, if_pos h, if_pos hb]
  rw [e, lay_fuel s _ _ (by omega) (by omega)]
theorem lay_end (s : ByteArray) : lay s s.size = s.size := by
  unfold lay
  rw [layL, if_neg (by omega)]
/-- Where nothing is passed over. -/
theorem lay_stay (s : ByteArray) (a : Int) (hb : ¬ (bt s a = 32 ∨ bt s a = 10)) (hd : dash s a = false) : lay s a = a := by
  unfold lay
  rw [layL]
  split
  · first | rw [if_neg hb, if_neg (by rw [hd]; decide)] | rw [if_neg (by rw [hd]; decide)]
  · rfl

theorem takeWhile_whole (p : UInt8 → Bool) : ∀ l : List UInt8, (∀ b ∈ l, p b = true) → l.takeWhile p = l := by
  intro l
  induction l with
  | nil => intro _; rfl
  | cons b l ih => intro h; rw [List.takeWhile_cons, h b (by simp), if_pos rfl, ih (fun x hx => h x (by simp [hx]))]
/-- Without a new line. -/
def NoNl (l : List UInt8) : Prop := 10 ∉ l
theorem NoNl.run {s : ByteArray} (h : NoNl s.data.toList) (a : Nat) (ha : a ≤ s.size) : Lx.run (fun c => c != 10) s a = s.size - a := by
  unfold Lx.run
  have : (s.data.toList.drop a).takeWhile (fun b => ((b.toNat : Int) != 10)) = s.data.toList.drop a := by
    refine takeWhile_whole _ _ (fun b hb => ?_)
    have : b ≠ 10 := fun e => h (by rw [← e]; exact List.mem_of_mem_drop hb)
    rw [bne_iff_ne]
    intro e
    exact this (UInt8.toNat_inj.1 (by show _ = 10; omega))
  rw [this, List.length_drop, len_data]
theorem adv_line (l : List UInt8) (h : NoNl l) : ∀ p : Int × Int, adv l p = (p.1, p.2 + l.length) := by
  induction l with
  | nil => intro p; simp [adv]
  | cons b l ih =>
    intro p
    have hb : b ≠ 10 := fun e => h (by rw [e]; simp)
    have hl : NoNl l := fun e => h (by simp [e])
    simp only [adv]
    rw [if_neg hb, ih hl]
    simp only [List.length_cons]
    exact Prod.ext rfl (by simp only; omega)
end Go.Proofs.YtfnhjdehlikbaaaGreatDoor.Lx

/- A text of two parts: a line, and what comes behind its end. -/
namespace Go.Proofs.YtfnhjdehlikbaaaGreatDoor.Lx
open Go.Proofs.YtfnhjdehlikbaaaGreatDoorW.PrintWords

/-- A token in a text that stands so much deeper. -/
def Tok.shift (n d : Int) (t : Tok) : Tok := t.moved (n + t.at_) (t.line + d, t.col)

theorem RawTo.place {s : ByteArray} {a : Int} {l : List Tok} (h : RawTo s a l) (h0 : 0 ≤ a) : ∀ t ∈ l, 0 ≤ t.at_ ∧ t.at_ < s.size ∧ t.line = (posOf s t.at_).1 ∧ t.col = (posOf s t.at_).2 := by
  induction h with
  | nil _ => intro t ht; cases ht
  | @cons a l hlt hk hb _ ih =>
    have hge : a ≤ lay s a := lay_ge s _ a
    obtain ⟨p1, p2, p3⟩ := next_place s (lay s a) (kindOf (bt s (lay s a)))
    intro t ht
    rcases List.mem_cons.1 ht with rfl | ht
    · rw [p1]
      exact ⟨by omega, hlt, p2, p3⟩
    · exact ih (by omega) t ht

section
variable {x : List UInt8} {X R S : ByteArray}
variable (hX : X.data.toList = x) (hS : S.data.toList = x ++ 10 :: R.data.toList)
end

end Go.Proofs.YtfnhjdehlikbaaaGreatDoor.Lx

/- A line moved to the right, and a comment behind it; lines without tokens. -/
namespace Go.Proofs.YtfnhjdehlikbaaaGreatDoor.Lx
open Go.Proofs.YtfnhjdehlikbaaaGreatDoorW.PrintWords

section
variable {X X1 : ByteArray} {x nm : List UInt8}
end

theorem noNl_rep (k : Nat) : NoNl (List.replicate k 32) := by
  intro h
  have := List.eq_of_mem_replicate h
  exact absurd this (by decide)
section
variable {X X' : ByteArray}
end

/-- What a line may become. -/
def MLine (k : Nat) (x x' : List UInt8) : Prop := x' = List.replicate k 32 ++ x ∨ ∃ nm, NoNl nm ∧ x' = List.replicate k 32 ++ (x ++ 32 :: 45 :: 45 :: 32 :: nm)
/-- A line without tokens. -/
def MBlank (y : List UInt8) : Prop := ∃ j : Nat, y = List.replicate j 32 ∨ ∃ nm, NoNl nm ∧ y = List.replicate j 32 ++ 45 :: 45 :: nm

end Go.Proofs.YtfnhjdehlikbaaaGreatDoor.Lx

/- Lines moved, lines put in, comments at ends of lines: the same raw tokens but for their places. -/
namespace Go.Proofs.YtfnhjdehlikbaaaGreatDoor.Lx
open Go.Proofs.YtfnhjdehlikbaaaGreatDoorW.PrintWords

/-- Tokens in other places: the lines by a function, the columns moved. -/
structure MTok (φ : Int → Int) (k : Int) (t t' : Tok) : Prop where
  kind : t'.kind = t.kind
  num : t'.num = t.num
  text : t'.text = t.text
  line : t'.line = φ t.line
  col : t'.col = t.col + k
inductive MToks (φ : Int → Int) (k : Int) : List Tok → List Tok → Prop
  | nil : MToks φ k [] []
  | cons {t t' : Tok} {l l' : List Tok} : MTok φ k t t' → MToks φ k l l' → MToks φ k (t :: l) (t' :: l')
/-- Later lines stay later. -/
structure Mono (φ : Int → Int) : Prop where
  low : ∀ a, 0 ≤ a → 0 ≤ φ a
  up : ∀ a b, 0 ≤ a → a < b → φ a < φ b

theorem MToks.len {φ : Int → Int} {k : Int} {l l' : List Tok} (h : MToks φ k l l') : l'.length = l.length := by
  induction h with
  | nil => rfl
  | cons _ _ ih => rw [List.length_cons, List.length_cons, ih]
theorem MToks.append {φ : Int → Int} {k : Int} {l l' m m' : List Tok} (h : MToks φ k l l') (h2 : MToks φ k m m') : MToks φ k (l ++ m) (l' ++ m') := by
  induction h with
  | nil => exact h2
  | cons h1 _ ih => exact .cons h1 ih
theorem MToks.shift {φ ψ : Int → Int} {k n n' : Int} {l l' : List Tok} (h : MToks φ k l l') (hp : ∀ t ∈ l, ψ (t.line + 1) = φ t.line + 1) : MToks ψ k (l.map (Tok.shift n 1)) (l'.map (Tok.shift n' 1)) := by
  induction h with
  | nil => exact .nil
  | @cons t t' l l' h1 _ ih =>
    refine .cons ⟨h1.kind, h1.num, h1.text, ?_, h1.col⟩ (ih (fun x hx => hp x (by simp [hx])))
    have := hp t (by simp)
    show t'.line + 1 = ψ (t.line + 1)
    rw [this, h1.line]
theorem MToks.put {φ ψ : Int → Int} {k n' : Int} {l l' : List Tok} (h : MToks φ k l l') (hp : ∀ t ∈ l, ψ t.line = φ t.line + 1) : MToks ψ k l (l'.map (Tok.shift n' 1)) := by
  induction h with
  | nil => exact .nil
  | @cons t t' l l' h1 _ ih =>
    refine .cons ⟨h1.kind, h1.num, h1.text, ?_, h1.col⟩ (ih (fun x hx => hp x (by simp [hx])))
    have := hp t (by simp)
    show t'.line + 1 = ψ t.line
    rw [this, h1.line]

/-- What lines may become. -/
inductive Moved (k : Nat) : List (List UInt8) → List (List UInt8) → Prop
  | one {x x' : List UInt8} : MLine k x x' → Moved k [x] [x']
  | line {x x' : List UInt8} {xs ys : List (List UInt8)} : MLine k x x' → Moved k xs ys → Moved k (x :: xs) (x' :: ys)
  | put {y : List UInt8} {xs ys : List (List UInt8)} : MBlank y → Moved k xs ys → Moved k xs (y :: ys)
theorem Moved.ne {k : Nat} {xs ys : List (List UInt8)} (h : Moved k xs ys) : xs ≠ [] ∧ ys ≠ [] := by
  induction h with
  | one _ => exact ⟨by simp, by simp⟩
  | line _ _ _ => exact ⟨by simp, by simp⟩
  | put _ _ ih => exact ⟨ih.1, by simp⟩

def bytes (l : List UInt8) : ByteArray := ⟨l.toArray⟩
end Go.Proofs.YtfnhjdehlikbaaaGreatDoor.Lx

/- Tokens in other places: the layer's work is the same but for the places. -/
namespace Go.Proofs.YtfnhjdehlikbaaaGreatDoor.Lx
open Go.Proofs.YtfnhjdehlikbaaaGreatDoorW.PrintWords

section
variable {φ : Int → Int} {k : Int} {t t' nx nx' : Tok} {out out' : List Tok} {st : List Lev}
theorem MTok.mark (h : MTok φ k t t') (n : Int) : MTok φ k (markF n t) (markF n t') := ⟨rfl, rfl, rfl, h.line, h.col⟩
theorem MToks.snoc (h : MToks φ k out out') (ht : MTok φ k t t') : MToks φ k (out ++ [t]) (out' ++ [t']) := h.append (.cons ht .nil)

end

end Go.Proofs.YtfnhjdehlikbaaaGreatDoor.Lx

/- bares (28): tokens without their places; equal rows of such (27). -/
namespace Go.Proofs.YtfnhjdehlikbaaaGreatDoor.Lx
open Go.RowKit Go.Proofs.YtfnhjdehlikbaaaGreatDoorW.PrintWords

theorem info49 : (Tryz.prog.info? 49).map (fun i => (i.zero, i.size, i.bytes)) = some (some (.agg #[.int .i64 0, .int .i64 0, .string ⟨#[]⟩]), 3, 32) := by kernel_rfl
def bareL (b : Int × Int × ByteArray) : List Value := [.int .i64 b.1, .int .i64 b.2.1, .string b.2.2]
def flatB (l : List (Int × Int × ByteArray)) : List Value := l.flatMap bareL
theorem flatB_snoc (l : List (Int × Int × ByteArray)) (b : Int × Int × ByteArray) : flatB (l ++ [b]) = flatB l ++ bareL b := by simp [flatB]
def tokBare (t : Tok) : Int × Int × ByteArray := (t.kind, t.num, t.text)
theorem flatB_at : ∀ (st : List (Int × Int × ByteArray)) (i j : Nat) (v : Int × Int × ByteArray), st[i]? = some v → j < 3 → (flatB st)[i * 3 + j]? = (bareL v)[j]? := by
  intro st
  induction st with
  | nil => intro i j v h; simp at h
  | cons a st ih =>
    intro i j v h hj
    have e : flatB (a :: st) = bareL a ++ flatB st := by simp [flatB]
    rw [e]
    have ha : (bareL a).length = 3 := rfl
    cases i with
    | zero =>
      simp at h
      subst h
      rw [Nat.zero_mul, Nat.zero_add, List.getElem?_append_left (by omega)]
    | succ i =>
      simp at h
      rw [List.getElem?_append_right (by omega), ← ih i j v h hj]
      congr 1
      omega

/-- Tokens without places that can be read. -/
def SrcB (A : Option Addr) (l : List (Int × Int × ByteArray)) (W : World) : Prop := ∀ (i : Nat) b, l[i]? = some b → ∃ g, A = some ⟨g, 0, none⟩ ∧
    W.cell? ⟨g, i * 3, none⟩ = some (.int .i64 b.1) ∧ W.cell? ⟨g, i * 3 + 1, none⟩ = some (.int .i64 b.2.1) ∧ W.cell? ⟨g, i * 3 + 2, none⟩ = some (.string b.2.2)
theorem SrcB.below {A : Option Addr} {l : List (Int × Int × ByteArray)} {W W' : World} (h : SrcB A l W) (hb : Below W.heap.size W W') : SrcB A l W' := by
  intro i t ht
  obtain ⟨g, hA, h0, h1, h2⟩ := h i t ht
  have e : ∀ o v, W.cell? ⟨g, o, none⟩ = some v → W'.cell? ⟨g, o, none⟩ = some v := fun o v hv => (hb.cell (p := ⟨g, o, none⟩) (World.block_lt_of_cell? _ _ hv)).trans hv
  exact ⟨g, hA, e _ _ h0, e _ _ h1, e _ _ h2⟩
theorem srcB_of_own {W : World} {B : Nat} {v : Value} {out : List (Int × Int × ByteArray)} (h : W.ownsRow B 49 3 v out.length (flatB out)) : ∃ O c, v = .slice O out.length c ∧ out.length ≤ c ∧ SrcB O out W := by
  rcases h.2 with ⟨h1, h2⟩ | ⟨g, cap, cur, h1, _, _, hc, _⟩
  · refine ⟨none, 0, by rw [h2]; exact h1, by omega, fun i t hi => ?_⟩
    rw [List.eq_nil_of_length_eq_zero h2] at hi
    simp at hi
  · refine ⟨some ⟨g, 0, none⟩, cap, h1, hc, fun i t hi => ⟨g, rfl, ?_⟩⟩
    subst h1
    have hcs := h.cells rfl
    have e : ∀ k, (⟨g, 0, none⟩ : Addr).add k = ⟨g, k, none⟩ := fun k => by unfold Addr.add; split <;> simp_all
    have r : ∀ j u, j < 3 → (bareL t)[j]? = some u → W.cell? ⟨g, i * 3 + j, none⟩ = some u := fun j u hj hu => by
      rw [← e]
      exact hcs _ _ ((flatB_at out i j t hi hj).trans hu)
    exact ⟨r 0 _ (by omega) rfl, r 1 _ (by omega) rfl, r 2 _ (by omega) rfl⟩

structure BaresAt (w : World) (l : List (Int × Int × ByteArray)) (v : Value) (W : World) : Prop where
  own : W.ownsRow w.heap.size 49 3 v l.length (flatB l)
  below : Below w.heap.size w W

set_option maxRecDepth 100000 in
set_option maxHeartbeats 8000000 in
theorem bares_any (l : List Tok) (A : Option Addr) (c : Nat) (w : World) (hl : l.length ≤ 100000) (hT : SrcC A l w) :
    Calls Tryz.prog 28 #[.slice A l.length c] w fun e w' => ∃ O c, e = .returned (.slice O l.length c) ∧ l.length ≤ c ∧ SrcB O (l.map tokBare) w' ∧ Below w.heap.size w w' := by
  obtain ⟨i0, hi, hz0, hz1, hz2⟩ := info_parts info49
  have HI := Aside0.mk hi; clear hi
  have HZ0 := Aside0.mk hz0; clear hz0
  have HZ1 := Aside0.mk hz1; clear hz1
  have HZ2 := Aside0.mk hz2; clear hz2
  have HSR := Aside0.mk hT; clear hT
  obtain ⟨n, hn⟩ : ∃ n, l.length = n := ⟨_, rfl⟩
  rw [hn] at hl ⊢
  have HN := Aside0.mk hn; clear hn
  have hn0 : (0 : Int) ≤ (n : Int) := by omega
  go_enter Tryz.func28, Tryz.ntmps28
  go_wp2
  go_loopg [8, 3] n (fun f t8 t3 wr => ∃ (i : Nat) (A' : Option Addr) (c' : Nat), t8 = .int .i64 (i : Int) ∧ t3 = .slice A' i c' ∧ i + f = n ∧ Aside0 (BaresAt w ((l.take i).map tokBare) (.slice A' i c') wr))
  case atStart => exact ⟨0, none, 0, rfl, rfl, by omega, ⟨World.ownsRow_nil _ _ _ _, Below.refl _ _⟩⟩
  case round =>
    obtain ⟨i, A', c', rfl, rfl, hif, hA⟩ := hrel
    by_cases hi : i < n
    · cases gk with
      | zero => omega
      | succ f =>
        have hlt : i < l.length := by rw [HN.out]; exact hi
        have hti := List.getElem?_eq_getElem hlt
        obtain ⟨g, hAg, q0, q1, q2, q3, q4, q5⟩ := (HSR.out.below hA.out.below) i _ hti
        have hxs : (l.take (i + 1)).map tokBare = (l.take i).map tokBare ++ [tokBare l[i]] := by rw [List.take_succ_eq_append_getElem hlt, List.map_append]; rfl
        have hli : ((l.take i).map tokBare).length = i := by rw [List.length_map, List.length_take, Nat.min_eq_left (by omega)]
        generalize l[i] = t at q0 q1 q2 q3 q4 q5 hxs
        have HXS := Aside0.mk hxs
        have HLI := Aside0.mk hli
        have hown := hA.out.own
        rw [hli] at hown
        have HOW := Aside0.mk hown
        have HBE := Aside0.mk hA.out.below
        have hsz := hA.out.below.size
        subst hAg
        obtain ⟨tk, tn, tx, ta, tl, tc⟩ := t
        simp only at q0 q1 q2 q3 q4 q5
        clear hti hlt hxs hli hown hA
        go_wp2_with (at_builtin; refine wpList_append_own_at _ rfl _ _ 47 rfl w.heap.size 49 i0 _ 3 32 Tryz.underlying47 HI.out HZ0.out HZ1.out HZ2.out rfl (by decide) (.slice A' i c') i (flatB ((l.take i).map tokBare)) rfl ((HOW.out.alloc _).alloc _) ⟨wr.heap.size + 1, 0, none⟩ 1 1 [.int .i64 tk, .int .i64 tn, .string tx] rfl rfl (by intro j u h; have := cells_new (wr.alloc (.cells #[.int .i64 tk, .int .i64 tn, .string tx, .int .i64 ta, .int .i64 tl, .int .i64 tc] 54)) #[.int .i64 tk, .int .i64 tn, .string tx] 49 j u h; rwa [show (wr.alloc (.cells #[.int .i64 tk, .int .i64 tn, .string tx, .int .i64 ta, .int .i64 tl, .int .i64 tc] 54)).heap.size = wr.heap.size + 1 by simp] at this) (by simp [Value.oneCell']) (by unfold maxLen; omega) (by omega) (by simp; omega) ?_; intro v' w3 hown' hgrow _ hat; obtain ⟨g', cap', rfl⟩ := ownsRow_succ hown'; have HO := Aside0.mk hown'; have HG := Aside0.mk hgrow; clear hown' hgrow hat)
        go_roundg f
        case measure => omega
        case rel =>
          refine ⟨i + 1, _, _, by go_num, rfl, by omega, ⟨?_, ?_⟩⟩
          · rw [HXS.out, flatB_snoc, List.length_append, HLI.out]
            exact HO.out
          · exact ((HBE.out.alloc hsz _).alloc (by simp; omega) _).grown HG.out (by simp; omega) (fun k hk => own_base HOW.out k hk)
    · obtain rfl : i = n := by omega
      have htk : l.take i = l := List.take_of_length_le (by rw [HN.out]; exact Nat.le_refl _)
      have hA2 := hA.out
      rw [htk] at hA2
      have HA2 := Aside0.mk hA2
      clear hA htk hA2
      go_wp2
      go_ret
      obtain ⟨O, c, hv, hc, hs⟩ := srcB_of_own HA2.out.own
      rw [List.length_map, HN.out] at hv hc
      injection hv with e1 e2 e3
      subst e1 e3
      exact ⟨_, _, rfl, hc, hs, HA2.out.below⟩

set_option maxRecDepth 100000 in
set_option maxHeartbeats 8000000 in
theorem equalB_any (l : List (Int × Int × ByteArray)) (hl : l.length ≤ 1000000) (A0 A1 : Option Addr) (c0 c1 : Nat) (w : World) (h0 : SrcB A0 l w) (hc0 : l.length ≤ c0) (h1 : SrcB A1 l w) (hc1 : l.length ≤ c1) :
    Calls Tryz.prog 27 #[.slice A0 l.length c0, .slice A1 l.length c1] w fun e w' => e = .returned (.bool true) ∧ Below w.heap.size w w' := by
  have HS0 := Aside0.mk h0
  have HS1 := Aside0.mk h1
  clear h0 h1
  obtain ⟨n, hn⟩ : ∃ n, l.length = n := ⟨_, rfl⟩
  rw [hn] at hl hc0 hc1 ⊢
  have HN := Aside0.mk hn; clear hn
  have c3b0 : ((n : Int) == (n : Int)) = true := beq_self_eq_true _
  have c3b1 : ((n : Int) != (n : Int)) = false := bne_self_eq_false _
  go_enter Tryz.func27, Tryz.ntmps27
  go_wp2
  repeat (go_quiet (fail); try go_wp2)
  go_loopg [13] n (fun f t13 wr => ∃ (i : Nat), t13 = .int .i64 (i : Int) ∧ i + f = n ∧ Aside0 (Below w.heap.size w wr))
  case atStart => exact ⟨0, rfl, by omega, ⟨Below.refl _ _⟩⟩
  case round =>
    obtain ⟨i, rfl, hif, hB⟩ := hrel
    have HB := Aside0.mk hB.out
    clear hB
    by_cases hi : i < n
    · cases gk with
      | zero => omega
      | succ f =>
        have hlt : i < l.length := by rw [HN.out]; exact hi
        have hti := List.getElem?_eq_getElem hlt
        obtain ⟨g0, e0, x0, x1, x2⟩ := (HS0.out.below HB.out) i _ hti
        obtain ⟨g1, e1, y0, y1, y2⟩ := (HS1.out.below HB.out) i _ hti
        subst e0 e1
        generalize l[i] = t at x0 x1 x2 y0 y1 y2
        obtain ⟨tk, tn, tx⟩ := t
        simp only at x0 x1 x2 y0 y1 y2
        have hi2 : (i : Int) < (n : Int) := by omega
        clear hti hlt
        go_wp2
        repeat (go_quiet (fail); try go_wp2)
        go_roundg f
        case measure => omega
        case rel => exact ⟨i + 1, by go_num, by omega, by first | exact HB | exact ⟨HB.out.trans ((bdrewN _ _).mono HB.out.size)⟩⟩
    · obtain rfl : i = n := by omega
      go_wp2
      repeat (go_quiet (fail); try go_wp2)
      go_ret
      exact ⟨rfl, HB.out⟩

end Go.Proofs.YtfnhjdehlikbaaaGreatDoor.Lx

/- The lines of a text: joined they are the text. -/
namespace Go.Proofs.YtfnhjdehlikbaaaGreatDoor.Lx
open Go.Proofs.YtfnhjdehlikbaaaGreatDoorW.PrintWords

/-- How long lines are, each with its end. -/
def tot (xs : List (List UInt8)) : Nat := (xs.map (fun x => x.length + 1)).sum
theorem tot_snoc (xs : List (List UInt8)) (x : List UInt8) : tot (xs ++ [x]) = tot xs + (x.length + 1) := by simp [tot]
/-- Lines so far, and what they became. -/
structure SoFar (k : Nat) (xs ys : List (List UInt8)) : Prop where
  ext : ∀ xs2 ys2, Moved k xs2 ys2 → Moved k (xs ++ xs2) (ys ++ ys2)
  all : xs ≠ [] → Moved k xs ys
  size : tot ys ≤ tot xs + 22 * xs.length
theorem SoFar.nil (k : Nat) : SoFar k [] [] := ⟨fun _ _ h => h, fun h => absurd rfl h, by simp [tot]⟩
theorem SoFar.line {k : Nat} {xs ys : List (List UInt8)} {x x' : List UInt8} (h : SoFar k xs ys) (hm : MLine k x x') (hl : x'.length ≤ x.length + 13) : SoFar k (xs ++ [x]) (ys ++ [x']) :=
  ⟨fun xs2 ys2 h2 => by rw [List.append_assoc, List.append_assoc]; exact h.ext _ _ (.line hm h2), fun _ => h.ext _ _ (.one hm), by rw [tot_snoc, tot_snoc, List.length_append]; have := h.size; simp; omega⟩
theorem SoFar.two {k : Nat} {xs ys : List (List UInt8)} {x x' y : List UInt8} (h : SoFar k xs ys) (hb : MBlank y) (hy : y.length ≤ 8) (hm : MLine k x x') (hl : x'.length ≤ x.length + 13) : SoFar k (xs ++ [x]) ((ys ++ [y]) ++ [x']) :=
  ⟨fun xs2 ys2 h2 => by rw [List.append_assoc, List.append_assoc, List.append_assoc]; exact h.ext _ _ (.put hb (.line hm h2)), fun _ => by rw [List.append_assoc]; exact h.ext _ _ (.put hb (.one hm)), by rw [tot_snoc, tot_snoc, tot_snoc, List.length_append]; have := h.size; simp; omega⟩

end Go.Proofs.YtfnhjdehlikbaaaGreatDoor.Lx

/- LexMoves (7): what the walk holds on its way. -/
namespace Go.Proofs.YtfnhjdehlikbaaaGreatDoor.Lx
open Go.RowKit Go.Proofs.YtfnhjdehlikbaaaGreatDoorW.PrintWords

/-- The lines of the text, those that came of them, and the store. -/
structure MvAt (B g b M m : Nat) (ls zs : List ByteArray) (v : Value) (w W : World) : Prop where
  store : StoreAt B b M W
  src : W.heap[g]? = some (.cells (ls.map Value.string).toArray 9)
  low : g < B
  own : W.ownsRow B 9 1 v m (zs.map Value.string)
  len : zs.length = m
  below : Below w.heap.size w W
  size : B ≤ W.heap.size
  far : w.heap.size ≤ b ∧ g ≠ b ∧ w.heap.size ≤ B

section
variable {B g b M M' m : Nat} {ls zs : List ByteArray} {v v' : Value} {w W W' : World} {z : ByteArray}
theorem MvAt.drawn (h : MvAt B g b M m ls zs v w W) (hs : StoreAt B b M' W') (hk : Keep (· = b) W W') : MvAt B g b M' m ls zs v w W' :=
  ⟨hs, (hk.block g (heap_lt h.src) h.far.2.1).trans h.src, h.low, own_move h.own (fun k hk2 => hk.block k (own_lt h.own k hk2) (fun e => by have := own_base h.own k hk2; have := h.store.low; omega)), h.len, below_keep h.below hk h.far.1 h.below.size, Nat.le_trans h.size hk.size, h.far⟩
theorem MvAt.step (h : MvAt B g b M m ls zs v w W) (hb : Below W.heap.size W W') : MvAt B g b M m ls zs v w W' :=
  ⟨h.store.below (hb.mono h.size), (hb.block _ (heap_lt h.src)).trans h.src, h.low, own_move h.own (fun k hk => hb.block k (own_lt h.own k hk)), h.len, h.below.trans (hb.mono h.below.size), Nat.le_trans h.size hb.size, h.far⟩
theorem MvAt.alloc (h : MvAt B g b M m ls zs v w W) (o : Obj) : MvAt B g b M m ls zs v w (W.alloc o) := h.step ((Below.refl _ W).alloc (Nat.le_refl _) o)
theorem MvAt.put (h : MvAt B g b M m ls zs v w W) (hG : W.grownBy W' v.ownBlock) (hO : W'.ownsRow B 9 1 v' (m + 1) (zs.map Value.string ++ [.string z])) : MvAt B g b M (m + 1) ls (zs ++ [z]) v' w W' := by
  have hB : Below B W W' := (Below.refl B W).grown hG h.size (fun k hk => own_base h.own k hk)
  exact ⟨h.store.below hB, (hB.block _ h.low).trans h.src, h.low, by rw [List.map_append]; exact hO, by rw [List.length_append, h.len]; rfl, h.below.grown hG h.below.size (fun k hk => Nat.le_trans h.far.2.2 (own_base h.own k hk)), Nat.le_trans h.size hG.size, h.far⟩
end

end Go.Proofs.YtfnhjdehlikbaaaGreatDoor.Lx

/- Where a place of a text is: the layer's lines and the reference's steps agree. -/
namespace Go.Proofs.YtfnhjdehlikbaaaGreatDoor.Lx

/-- The lengths of the lines of bytes. -/
def linesL : List UInt8 → List Nat
  | [] => [0]
  | b :: l => if b = 10 then 0 :: linesL l else match linesL l with | [] => [] | h :: t => (h + 1) :: t
theorem linesL_ne : ∀ l, ∃ h t, linesL l = h :: t := by
  intro l
  induction l with
  | nil => exact ⟨0, [], rfl⟩
  | cons b l ih =>
    obtain ⟨h, t, e⟩ := ih
    simp only [linesL, e]
    split
    · exact ⟨_, _, rfl⟩
    · exact ⟨_, _, rfl⟩

theorem split_lens : ∀ l : List UInt8, (Lib.splitK [10] 0 (Lib.count l [10]) l).map List.length = linesL l := by
  intro l
  induction l with
  | nil => rw [Lib.count_miss (by simp [Lib.index])]; rfl
  | cons b l ih =>
    by_cases hb : b = 10
    · subst hb
      have hix : Lib.index (10 :: l) [10] = ((0 : Nat) : Int) := by rw [Lib.index]; simp [List.isPrefixOf]
      rw [Lib.count_cons_eq, Nat.add_comm, Lib.splitK, hix]
      simp only [linesL, if_true]
      rw [← ih]
      simp
    · have hp : ([10] : List UInt8).isPrefixOf (b :: l) = false := by simp [List.isPrefixOf, Ne.symm hb]
      have hix : Lib.index (b :: l) [10] = if Lib.index l [10] == -1 then -1 else Lib.index l [10] + 1 := by rw [Lib.index, hp]; simp
      rw [Lib.count_cons_ne b 10 l hb]
      simp only [linesL, if_neg hb]
      by_cases hm : Lib.index l [10] = -1
      · rw [Lib.count_miss hm] at ih ⊢
        rw [← ih]
        simp [Lib.splitK]
      · have hge := Lib.index_ge l [10]
        obtain ⟨j, hj⟩ : ∃ j : Nat, Lib.index l [10] = j := ⟨(Lib.index l [10]).toNat, by omega⟩
        rw [if_neg (by simp; omega), hj] at hix
        rw [Lib.count_hit (by simp) hj] at ih ⊢
        rw [Nat.add_comm, Lib.splitK, hj] at ih
        rw [Nat.add_comm, Lib.splitK, hix]
        rw [if_neg (by simp)] at ih
        rw [if_neg (by simp; omega)]
        have e1 : ((j : Int) + 1).toNat = j + 1 := by omega
        have e2 : ((j : Int)).toNat = j := by omega
        rw [e1]
        rw [e2] at ih
        rw [← ih]
        simp [List.take_succ_cons]

theorem lines_lens (s : ByteArray) : (linesF s).map ByteArray.size = linesL s.data.toList := by
  have h := congrArg (List.map List.length) (Lib.splitB_data ⟨#[10]⟩ 0 (Lib.countB s ⟨#[10]⟩) s)
  rw [List.map_map] at h
  have h2 : (linesF s).map ByteArray.size = (linesF s).map (List.length ∘ fun x => x.data.toList) := by
    apply List.map_congr_left
    intro x _
    exact (len_data x).symm
  rw [h2]
  unfold linesF
  exact h.trans (split_lens _)

/-- The index at which one comes to a line and a column. -/
def idxG (line col : Int) : Int × Int → List UInt8 → Int → Int × Int
  | p, [], i => if p.1 = line ∧ p.2 = col then (i, 0) else (0, 3)
  | p, b :: l, i => if p.1 = line ∧ p.2 = col then (i, 0) else idxG line col (if b = 10 then (p.1 + 1, 0) else (p.1, p.2 + 1)) l (i + 1)
def sumN (m : List Nat) (k : Nat) : Int := (((m.take k).map (· + 1)).sum : Nat)
theorem sumN_zero (m : List Nat) : sumN m 0 = 0 := by simp [sumN]
theorem sumN_succ (h : Nat) (m : List Nat) (k : Nat) : sumN (h :: m) (k + 1) = (h : Int) + 1 + sumN m k := by
  simp [sumN]

theorem idxG_at (line col : Int) : ∀ (l : List UInt8) (a c i : Int), idxG line col (a, c) l i =
    if line < a ∨ ((linesL l).length : Int) ≤ line - a ∨ col < (if line = a then c else 0) ∨ (((linesL l)[(line - a).toNat]?.getD 0 : Nat) : Int) + (if line = a then c else 0) < col then (0, 3)
    else (i + (col - (if line = a then c else 0)) + sumN (linesL l) (line - a).toNat, 0) := by
  intro l
  induction l with
  | nil =>
    intro a c i
    simp only [idxG, linesL]
    by_cases h1 : line = a
    · subst h1
      simp only [if_true, true_and, Int.sub_self, Int.toNat_zero]
      by_cases h2 : c = col
      · subst h2
        rw [if_pos rfl, if_neg (by simp), sumN_zero]
        simp
      · rw [if_neg h2, if_pos (by simp; omega)]
    · rw [if_neg (show ¬ (a = line ∧ c = col) by omega)]
      refine (if_pos ?_).symm
      have e0 : (([0] : List Nat).length : Int) = 1 := rfl
      omega
  | cons b l ih =>
    intro a c i
    simp only [idxG]
    by_cases hb : b = 10
    · subst hb
      simp only [linesL, if_true]
      by_cases h1 : line = a
      · subst h1
        simp only [if_true, true_and, Int.sub_self, Int.toNat_zero]
        by_cases h2 : c = col
        · subst h2
          rw [if_pos rfl, if_neg (by simp), sumN_zero]
          simp
        · rw [if_neg h2, ih, if_pos (by omega), if_pos (by simp; omega)]
      · rw [if_neg (by omega), ih]
        by_cases h3 : line < a
        · rw [if_pos (by omega), if_pos (by omega)]
        · obtain ⟨k, rfl⟩ : ∃ k : Nat, line = a + 1 + k := ⟨(line - a - 1).toNat, by omega⟩
          have e1 : (a + 1 + (k : Int) - a).toNat = k + 1 := by omega
          have e2 : (a + 1 + (k : Int) - (a + 1)).toNat = k := by omega
          have e3 : ∀ c : Int, (if a + 1 + (k : Int) = a then c else 0) = 0 := fun c => if_neg (by omega)
          have e4 : (if a + 1 + (k : Int) = a + 1 then (0 : Int) else 0) = 0 := by split <;> rfl
          rw [e1, e2, e3, e4, sumN_succ, List.getElem?_cons_succ, List.length_cons]
          by_cases hc : ((linesL l).length : Int) ≤ k ∨ col < 0 ∨ (((linesL l)[k]?.getD 0 : Nat) : Int) + 0 < col
          · rw [if_pos (by omega), if_pos (by omega)]
          · rw [if_neg (by omega), if_neg (by omega)]
            exact Prod.ext (by simp only; omega) rfl
    · obtain ⟨h, t, e⟩ := linesL_ne l
      simp only [linesL, if_neg hb, e]
      by_cases h1 : line = a
      · subst h1
        simp only [if_true, true_and, Int.sub_self, Int.toNat_zero]
        by_cases h2 : c = col
        · subst h2
          rw [if_pos rfl, if_neg (by simp; omega), sumN_zero]
          simp
        · rw [if_neg h2, ih, e]
          simp only [if_true, Int.sub_self, Int.toNat_zero, List.getElem?_cons_zero, Option.getD_some, sumN_zero, List.length_cons]
          by_cases hc : col < c ∨ ((h + 1 : Nat) : Int) + c < col
          · rw [if_pos (by omega), if_pos (by omega)]
          · rw [if_neg (by omega), if_neg (by omega)]
            exact Prod.ext (by simp only; omega) rfl
      · rw [if_neg (by omega), ih, e]
        by_cases h3 : line < a
        · rw [if_pos (by omega), if_pos (by omega)]
        · obtain ⟨k, rfl⟩ : ∃ k : Nat, line = a + 1 + k := ⟨(line - a - 1).toNat, by omega⟩
          have e1 : (a + 1 + (k : Int) - a).toNat = k + 1 := by omega
          have e3 : ∀ c : Int, (if a + 1 + (k : Int) = a then c else 0) = 0 := fun c => if_neg (by omega)
          rw [e1, e3, e3, sumN_succ, sumN_succ, List.getElem?_cons_succ, List.getElem?_cons_succ, List.length_cons, List.length_cons]
          by_cases hc : ((t.length + 1 : Nat) : Int) ≤ a + 1 + k - a ∨ col < 0 ∨ ((t[k]?.getD 0 : Nat) : Int) + 0 < col
          · rw [if_pos (by omega), if_pos (by omega)]
          · rw [if_neg (by omega), if_neg (by omega)]
            exact Prod.ext (by simp only; omega) rfl

theorem sumL_sumN (l : List ByteArray) (k : Nat) : sumL l k = sumN (l.map ByteArray.size) k := by
  unfold sumL sumN
  rw [← List.map_take, List.map_map]
  rfl
theorem getD_size (l : List ByteArray) (k : Nat) : (l.map ByteArray.size)[k]?.getD 0 = (l[k]?.getD ⟨#[]⟩).size := by
  rw [List.getElem?_map]
  cases l[k]? <;> rfl

/-- The index of a place, step by step. -/
theorem indexF_steps (s : ByteArray) (line col : Int) (h : ¬ (65536 : Int) < s.size) : indexF s line col = idxG line col (0, 0) s.data.toList 0 := by
  rw [idxG_at, ← lines_lens, List.length_map, getD_size, ← sumL_sumN]
  unfold indexF
  rw [if_neg h]
  have e : (if line = 0 then (0 : Int) else 0) = 0 := by split <;> rfl
  rw [e, Int.sub_zero, Int.sub_zero, Int.zero_add]
  by_cases hc : line < 0 ∨ ((linesF s).length : Int) ≤ line ∨ col < 0 ∨ (((linesF s)[line.toNat]?.getD ⟨#[]⟩).size : Int) < col
  · rw [if_pos hc, if_pos (by omega)]
  · rw [if_neg hc, if_neg (by omega)]

end Go.Proofs.YtfnhjdehlikbaaaGreatDoor.Lx

/- The reference's Place (78) and Index (79). -/
namespace Go.Proofs.YtfnhjdehlikbaaaGreatDoor.Lx
open Go.RowKit Go.Proofs.YtfnhjdehlikbaaaGreatDoorW.PrintWords

theorem idxG_hit {line col : Int} (l : List UInt8) (i : Int) : idxG line col (line, col) l i = (i, 0) := by
  cases l <;> simp [idxG]
theorem idxG_miss {line col a c : Int} (b : UInt8) (l : List UInt8) (i : Int) (h : ¬ (a = line ∧ c = col)) : idxG line col (a, c) (b :: l) i = idxG line col (if b = 10 then (a + 1, 0) else (a, c + 1)) l (i + 1) := by
  simp only [idxG, if_neg h]

/-- One step of the reference's Index. -/
structure IdxAt (s : ByteArray) (line col : Int) (R : Int × Int) (ln co : Int) (i : Nat) : Prop where
  low : i ≤ s.size → posOf s i = (ln, co) ∧ idxG line col (ln, co) (s.data.toList.drop i) i = R
  high : i = s.size + 1 → R = (0, 3)

end Go.Proofs.YtfnhjdehlikbaaaGreatDoor.Lx

