import Derived.Test.YtfnhjdehlikbaaaGreatDoorM7
import Derived.Test.YtfnhjdehlikbaaaGreatDoorM8
import Derived.Test.YtfnhjdehlikbaaaGreatDoorM4
import Derived.Test.YtfnhjdehlikbaaaGreatDoorM5
import Derived.Lib.Join
set_option linter.unusedVariables false
set_option linter.unusedSimpArgs false
/- A text behind another one: what is cut in it is cut as in the text alone, moved. -/
namespace Go.Proofs.YtfnhjdehlikbaaaGreatDoor.Lx
open Go.Proofs.YtfnhjdehlikbaaaGreatDoorW.PrintWords

/-- A text with bytes ahead of it. -/
structure Behind (p : List UInt8) (s s' : ByteArray) : Prop where
  data : s'.data.toList = p ++ s.data.toList

/-- A token in another place. -/
def Tok.moved (t : Tok) (a : Int) (pos : Int × Int) : Tok := { t with at_ := a, line := pos.1, col := pos.2 }

section
variable {p : List UInt8} {s s' : ByteArray}
theorem Behind.size (h : Behind p s s') : s'.size = p.length + s.size := by
  have := congrArg List.length h.data
  rw [len_data, List.length_append, len_data] at this
  exact this
theorem Behind.byte (h : Behind p s s') (i : Int) (h0 : 0 ≤ i) : bt s' (p.length + i) = bt s i := by
  rw [bt_list _ _ (by omega), bt_list _ _ h0, h.data, List.getElem?_append_right (by omega)]
  rw [show ((p.length : Int) + i).toNat - p.length = i.toNat by omega]
theorem Behind.drop (h : Behind p s s') (a : Nat) : s'.data.toList.drop (p.length + a) = s.data.toList.drop a := by
  rw [h.data, ← List.drop_drop, List.drop_left]
theorem Behind.run (h : Behind p s s') (q : Int → Bool) (a : Nat) : Lx.run q s' (p.length + a) = Lx.run q s a := by
  unfold Lx.run
  rw [h.drop]
theorem Behind.more (h : Behind p s s') (i : Int) (h0 : 0 ≤ i) : Lx.more s' (p.length + i) = Lx.more s i := by
  have hz := h.size
  unfold Lx.more
  rw [h.byte i h0, show (p.length : Int) + i + 1 = p.length + (i + 1) by omega, h.byte (i + 1) (by omega)]
  congr 1
  by_cases h1 : i + 1 < s.size
  · rw [decide_eq_true h1, decide_eq_true (by omega)]
  · rw [decide_eq_false h1, decide_eq_false (by omega)]
theorem Behind.wordsL (h : Behind p s s') (a : Int) (ha : 0 ≤ a) : ∀ (f f' : Nat) (n bad many : Int), 0 ≤ n → a + n ≤ s.size → s.size < a + n + f → s.size < a + n + f' → Lx.wordsL s' (p.length + a) f' n bad many = Lx.wordsL s a f n bad many := by
  intro f
  induction f with
  | zero => intro f' n bad many h1 h2 h3; omega
  | succ f ih =>
    intro f' n bad many h1 h2 h3 h4
    cases f' with
    | zero => omega
    | succ f' =>
      simp only [Lx.wordsL]
      have e : ((p.length : Int) + a + n).toNat = p.length + (a + n).toNat := by omega
      rw [e, h.run isLetter _]
      have hr := run_le isLetter s (a + n).toNat (by omega)
      generalize Lx.run isLetter s (a + n).toNat = k at hr ⊢
      rw [show (p.length : Int) + a + (n + (k : Int)) = p.length + (a + (n + k)) by omega, h.more _ (by omega)]
      split
      · rename_i hm
        have : a + (n + (k : Int)) + 1 < s.size := by
          unfold Lx.more at hm
          simp only [Bool.and_eq_true, decide_eq_true_eq] at hm
          exact hm.1
        exact ih f' _ _ _ (by omega) (by omega) (by omega) (by omega)
      · rfl
theorem Behind.words (h : Behind p s s') (a : Int) (h0 : 0 ≤ a) (ha : a ≤ s.size) : Lx.words s' (p.length + a) = Lx.words s a := by
  have hz := h.size
  exact h.wordsL a h0 _ _ 0 (-1) 1 (by omega) (by omega) (by omega) (by omega)
theorem Behind.extract (h : Behind p s s') (a b : Nat) : s'.extract (p.length + a) (p.length + b) = s.extract a b := by
  have e : (s'.extract (p.length + a) (p.length + b)).data.toList = (s.extract a b).data.toList := by
    rw [Lib.extract_data, Lib.extract_data, h.drop, show p.length + b - (p.length + a) = b - a by omega]
  exact ByteArray.ext (Array.toList_inj.1 e)
theorem Behind.extract_end (h : Behind p s s') (a : Nat) : s'.extract (p.length + a) s'.size = s.extract a s.size := by
  rw [h.size, h.extract]
theorem Behind.posOf (h : Behind p s s') (a : Int) (h0 : 0 ≤ a) : Lx.posOf s' (p.length + a) = adv (s.data.toList.take a.toNat) (adv p (0, 0)) := by
  unfold Lx.posOf
  rw [h.data, show ((p.length : Int) + a).toNat = p.length + a.toNat by omega, List.take_length_add_append, adv_append]
theorem Behind.nextOf (h : Behind p s s') (a k : Int) (h0 : 0 ≤ a) (ha : a < s.size) :
    Lx.nextOf s' (p.length + a) k = ((Lx.nextOf s a k).1.moved (p.length + a) (Lx.posOf s' (p.length + a)), (Lx.nextOf s a k).2) := by
  have hw := words_le s a h0 (by omega)
  have e0 : ((p.length : Int) + a).toNat = p.length + a.toNat := by omega
  unfold Lx.nextOf
  split
  · unfold Lx.nextWord
    simp only [Tok.moved]
    rw [h.words a h0 (by omega), e0, show ((p.length : Int) + a + (Lx.words s a).1).toNat = p.length + (a + (Lx.words s a).1).toNat by omega, h.extract]
  · split
    · unfold Lx.nextNum
      simp only [Tok.moved]
      rw [e0, h.run, h.byte a h0, show ((p.length : Int) + a + (Lx.run isDigit s a.toNat : Nat)).toNat = p.length + (a + (Lx.run isDigit s a.toNat : Nat)).toNat by omega, h.extract]
    · unfold Lx.nextSign
      simp only [Tok.moved]
      rw [e0, h.extract_end, show ((p.length : Int) + a + ((longest (s.extract a.toNat s.size)).size : Int)).toNat = p.length + (a + ((longest (s.extract a.toNat s.size)).size : Int)).toNat by omega, h.extract]
theorem Behind.dash (h : Behind p s s') (a : Int) (h0 : 0 ≤ a) : Lx.dash s' (p.length + a) = Lx.dash s a := by
  have hz := h.size
  unfold Lx.dash
  rw [h.byte a h0, show (p.length : Int) + a + 1 = p.length + (a + 1) by omega, h.byte (a + 1) (by omega)]
  congr 1
  by_cases h1 : a + 1 < s.size
  · rw [decide_eq_true h1, decide_eq_true (by omega)]
  · rw [decide_eq_false h1, decide_eq_false (by omega)]
theorem Behind.layL (h : Behind p s s') : ∀ (f f' : Nat) (a : Int), 0 ≤ a → a ≤ s.size → s.size < a + f → s.size < a + f' → Lx.layL s' f' (p.length + a) = p.length + Lx.layL s f a := by
  have hz := h.size
  intro f
  induction f with
  | zero => intro f' a h0 h1 h2; omega
  | succ f ih =>
    intro f' a h0 h1 h2 h3
    cases f' with
    | zero => omega
    | succ f' =>
      simp only [Lx.layL]
      by_cases hlt : a < s.size
      · rw [if_pos hlt, if_pos (show (p.length : Int) + a < s'.size by omega), h.byte a h0, h.dash a h0]
        split
        · rw [show (p.length : Int) + a + 1 = p.length + (a + 1) by omega]
          exact ih f' (a + 1) (by omega) (by omega) (by omega) (by omega)
        · split
          · rename_i hd
            have hr := run_le (fun c => c != 10) s a.toNat (by omega)
            have hr1 := dash_run s a h0 hd
            rw [show ((p.length : Int) + a).toNat = p.length + a.toNat by omega, h.run]
            generalize Lx.run (fun c => c != 10) s a.toNat = k at hr hr1 ⊢
            rw [show (p.length : Int) + a + (k : Int) = p.length + (a + k) by omega]
            exact ih f' _ (by omega) (by omega) (by omega) (by omega)
          · rfl
      · rw [if_neg hlt, if_neg (show ¬ (p.length : Int) + a < s'.size by omega)]
theorem Behind.lay (h : Behind p s s') (a : Int) (h0 : 0 ≤ a) (ha : a ≤ s.size) : Lx.lay s' (p.length + a) = p.length + Lx.lay s a := by
  have hz := h.size
  exact h.layL _ _ a h0 ha (by omega) (by omega)
end

/-- The raw tokens of a text from an index on, where it is cut right. -/
inductive RawTo (s : ByteArray) : Int → List Tok → Prop
  | nil {a : Int} : lay s a = s.size → RawTo s a []
  | cons {a : Int} {l : List Tok} : lay s a < s.size → kindOf (bt s (lay s a)) ≠ 0 → (nextOf s (lay s a) (kindOf (bt s (lay s a)))).2 < 0 →
      RawTo s (lay s a + (nextOf s (lay s a) (kindOf (bt s (lay s a)))).1.text.size) l → RawTo s a ((nextOf s (lay s a) (kindOf (bt s (lay s a)))).1 :: l)

theorem rawTo_of (s : ByteArray) : ∀ (f : Nat) (a : Int) (acc : List Tok), 0 ≤ a → a ≤ s.size → (s.size : Int) + 2 ≤ a + f → (rawL s f a acc).2.2 = 0 → ∃ l, RawTo s a l ∧ (rawL s f a acc) = (acc ++ l, 0, 0) := by
  intro f
  induction f with
  | zero => intro a acc h0 h1 h2; omega
  | succ f ih =>
    intro a acc h0 h1 h2 h
    have hge : a ≤ lay s a := lay_ge s _ a
    have hle : lay s a ≤ s.size := layL_le s _ a h0 h1
    simp only [rawL] at h ⊢
    by_cases hend : lay s a = s.size
    · rw [if_pos hend]
      exact ⟨[], .nil hend, by simp⟩
    · rw [if_neg hend] at h ⊢
      have hnp := next_pos s (lay s a) (by omega) (by omega)
      have hnf := next_fits s (lay s a) (kindOf (bt s (lay s a))) (by omega) (by omega)
      by_cases hk : kindOf (bt s (lay s a)) = 0
      · rw [if_pos hk] at h
        simp at h
      · rw [if_neg hk] at h ⊢
        by_cases hm : (acc.length : Int) = 4000
        · rw [if_pos hm] at h
          simp at h
        · rw [if_neg hm] at h ⊢
          by_cases hb : 0 ≤ (nextOf s (lay s a) (kindOf (bt s (lay s a)))).2
          · rw [if_pos hb] at h
            simp at h
          · rw [if_neg hb] at h ⊢
            have hp := hnp hk (by omega)
            obtain ⟨l, h3, h4⟩ := ih _ _ (by omega) (by omega) (by omega) h
            exact ⟨_, .cons (by omega) hk (by omega) h3, by rw [h4, List.append_assoc]; rfl⟩
theorem rawTo_to {s : ByteArray} {a : Int} {l : List Tok} (h : RawTo s a l) : ∀ (f : Nat) (acc : List Tok), 0 ≤ a → a ≤ s.size → (s.size : Int) + 2 ≤ a + f → acc.length + l.length ≤ 4000 → rawL s f a acc = (acc ++ l, 0, 0) := by
  induction h with
  | nil hend =>
    intro f acc h0 h1 h2 h3
    cases f with
    | zero => omega
    | succ f => rw [rawL, if_pos hend, List.append_nil]
  | @cons a l hlt hk hb _ ih =>
    intro f acc h0 h1 h2 h3
    have hge : a ≤ lay s a := lay_ge s _ a
    have hnp := next_pos s (lay s a) (by omega) hlt hk hb
    have hnf := next_fits s (lay s a) (kindOf (bt s (lay s a))) (by omega) hlt
    cases f with
    | zero => omega
    | succ f =>
      rw [rawL, if_neg (by omega), if_neg hk, if_neg (by simp at h3; omega), if_neg (by omega), ih f _ (by omega) (by omega) (by omega) (by simp at h3 ⊢; omega), List.append_assoc]
      rfl
theorem rawTo_all {s : ByteArray} (h : (rawF s).2.2 = 0) : s.size ≤ 65536 ∧ RawTo s 0 (rawF s).1 := by
  unfold rawF at h ⊢
  split
  · rename_i hbig
    rw [if_pos hbig] at h
    simp at h
  · rename_i hbig
    rw [if_neg hbig] at h
    obtain ⟨l, h1, h2⟩ := rawTo_of s (s.size + 2) 0 [] (by omega) (by omega) (by omega) h
    unfold rawAll
    rw [h2]
    exact ⟨by omega, h1⟩
theorem rawTo_fin {s : ByteArray} {l : List Tok} (h : RawTo s 0 l) (hs : s.size ≤ 65536) (hl : l.length ≤ 4000) : rawF s = (l, 0, 0) := by
  unfold rawF
  rw [if_neg (by omega)]
  exact rawTo_to h (s.size + 2) [] (by omega) (by omega) (by omega) (by simpa using hl)

end Go.Proofs.YtfnhjdehlikbaaaGreatDoor.Lx

/- A text with a blank behind it; lines. -/
namespace Go.Proofs.YtfnhjdehlikbaaaGreatDoor.Lx
open Go.Proofs.YtfnhjdehlikbaaaGreatDoorW.PrintWords

/-- A text goes on with a blank. -/
def GoesBl (s s' : ByteArray) : Prop := ∃ r, s'.data.toList = s.data.toList ++ 32 :: r

theorem takeWhile_bl (p : UInt8 → Bool) (r : List UInt8) (hp : p 32 = false) : ∀ l : List UInt8, ((l ++ 32 :: r).takeWhile p).length = (l.takeWhile p).length := by
  intro l
  induction l with
  | nil => rw [List.nil_append, List.takeWhile_cons, hp]; rfl
  | cons b l ih =>
    rw [List.cons_append, List.takeWhile_cons, List.takeWhile_cons]
    split
    · rw [List.length_cons, List.length_cons, ih]
    · rfl
theorem prefix_bl (r : List UInt8) : ∀ (x l : List UInt8), 32 ∉ x → x.isPrefixOf (l ++ 32 :: r) = x.isPrefixOf l := by
  intro x
  induction x with
  | nil => intro l _; rfl
  | cons c x ih =>
    intro l hx
    have hc : c ≠ 32 := fun h => hx (by simp [h])
    cases l with
    | nil =>
      have : (c == 32) = false := beq_eq_false_iff_ne.2 hc
      simp [List.isPrefixOf, this]
    | cons d l =>
      simp only [List.cons_append, List.isPrefixOf]
      rw [ih l (fun h => hx (by simp [h]))]
section
variable {s s' : ByteArray}
theorem GoesBl.size (h : GoesBl s s') : s.size + 1 ≤ s'.size := by
  obtain ⟨r, hr⟩ := h
  have := congrArg List.length hr
  rw [len_data, List.length_append, len_data, List.length_cons] at this
  omega
theorem GoesBl.byte (h : GoesBl s s') (i : Int) (h0 : 0 ≤ i) (hi : i < s.size) : bt s' i = bt s i := by
  obtain ⟨r, hr⟩ := h
  rw [bt_list _ _ h0, bt_list _ _ h0, hr, List.getElem?_append_left (by rw [len_data]; omega)]
theorem GoesBl.bt_end (h : GoesBl s s') : bt s' s.size = 32 := by
  obtain ⟨r, hr⟩ := h
  rw [bt_list _ _ (by omega), hr, Int.toNat_natCast, List.getElem?_append_right (by rw [len_data]; exact Nat.le_refl _), len_data, Nat.sub_self]
  rfl
theorem GoesBl.run (h : GoesBl s s') (p : Int → Bool) (hp : p 32 = false) (a : Nat) (ha : a ≤ s.size) : Lx.run p s' a = Lx.run p s a := by
  obtain ⟨r, hr⟩ := h
  unfold Lx.run
  rw [hr, List.drop_append_of_le_length (by rw [len_data]; exact ha)]
  exact takeWhile_bl (fun b => p (b.toNat : Int)) r hp _
theorem GoesBl.more (h : GoesBl s s') (i : Int) (h0 : 0 ≤ i) (hi : i ≤ s.size) : Lx.more s' i = Lx.more s i := by
  have hz := h.size
  unfold Lx.more
  by_cases h1 : i + 1 < s.size
  · rw [decide_eq_true h1, decide_eq_true (by omega), h.byte i h0 (by omega), h.byte (i + 1) (by omega) (by omega)]
  · rw [decide_eq_false h1, Bool.false_and]
    by_cases h2 : i + 1 = s.size
    · have : isLetter (bt s' (i + 1)) = false := by rw [h2, h.bt_end]; decide
      rw [this, Bool.and_false, Bool.and_false]
    · obtain rfl : i = s.size := by omega
      have : (bt s' s.size == 46) = false := by rw [h.bt_end]; decide
      rw [this, Bool.false_and, Bool.and_false]
theorem GoesBl.wordsL (h : GoesBl s s') (a : Int) (ha : 0 ≤ a) : ∀ (f f' : Nat) (n bad many : Int), 0 ≤ n → a + n ≤ s.size → s.size < a + n + f → s.size < a + n + f' → Lx.wordsL s' a f' n bad many = Lx.wordsL s a f n bad many := by
  intro f
  induction f with
  | zero => intro f' n bad many h1 h2 h3; omega
  | succ f ih =>
    intro f' n bad many h1 h2 h3 h4
    cases f' with
    | zero => omega
    | succ f' =>
      simp only [Lx.wordsL]
      rw [h.run isLetter (by decide) _ (by omega)]
      have hr := run_le isLetter s (a + n).toNat (by omega)
      generalize Lx.run isLetter s (a + n).toNat = k at hr ⊢
      rw [h.more _ (by omega) (by omega)]
      split
      · rename_i hm
        have : a + (n + (k : Int)) + 1 < s.size := by
          unfold Lx.more at hm
          simp only [Bool.and_eq_true, decide_eq_true_eq] at hm
          exact hm.1
        exact ih f' _ _ _ (by omega) (by omega) (by omega) (by omega)
      · rfl
theorem GoesBl.words (h : GoesBl s s') (a : Int) (h0 : 0 ≤ a) (ha : a ≤ s.size) : Lx.words s' a = Lx.words s a := by
  have hz := h.size
  exact h.wordsL a h0 _ _ 0 (-1) 1 (by omega) (by omega) (by omega) (by omega)
theorem GoesBl.extract (h : GoesBl s s') (a b : Nat) (hb : b ≤ s.size) : s'.extract a b = s.extract a b := by
  obtain ⟨r, hr⟩ := h
  have e : (s'.extract a b).data.toList = (s.extract a b).data.toList := by
    rw [Lib.extract_data, Lib.extract_data, hr]
    by_cases ha : a ≤ s.size
    · rw [List.drop_append_of_le_length (by rw [len_data]; exact ha), List.take_append_of_le_length (by rw [List.length_drop, len_data]; omega)]
    · rw [show b - a = 0 by omega, List.take_zero, List.take_zero]
  exact ByteArray.ext (Array.toList_inj.1 e)
theorem GoesBl.posOf (h : GoesBl s s') (a : Int) (ha : a ≤ s.size) : Lx.posOf s' a = Lx.posOf s a := by
  obtain ⟨r, hr⟩ := h
  unfold Lx.posOf
  rw [hr, List.take_append_of_le_length (by rw [len_data]; omega)]
theorem GoesBl.nextWord (h : GoesBl s s') (a : Int) (h0 : 0 ≤ a) (ha : a ≤ s.size) : Lx.nextWord s' a = Lx.nextWord s a := by
  obtain ⟨b1, b2, _, _⟩ := words_le s a h0 ha
  unfold Lx.nextWord
  simp only
  rw [h.words a h0 ha, h.posOf a ha, h.extract _ _ (by omega)]
theorem GoesBl.nextNum (h : GoesBl s s') (a : Int) (h0 : 0 ≤ a) (ha : a < s.size) : Lx.nextNum s' a = Lx.nextNum s a := by
  have hr := run_le isDigit s a.toNat (by omega)
  unfold Lx.nextNum
  simp only
  rw [h.run isDigit (by decide) _ (by omega), h.posOf a (by omega), h.byte a h0 ha, h.extract _ _ (by omega)]
theorem sgs_bl : ∀ x ∈ sgs, (32 : UInt8) ∉ x.data.toList := by decide +kernel
theorem GoesBl.longest (h : GoesBl s s') (a : Nat) (ha : a ≤ s.size) : Lx.longest (s'.extract a s'.size) = Lx.longest (s.extract a s.size) := by
  unfold Lx.longest
  rw [find_congr sgs (q := fun x => hasPrefix (s.extract a s.size) x) (fun x hx => ?_)]
  obtain ⟨r, hr⟩ := h
  unfold hasPrefix
  rw [drop_extract, drop_extract, hr, List.drop_append_of_le_length (by rw [len_data]; exact ha)]
  exact prefix_bl r _ _ (sgs_bl x hx)
theorem GoesBl.nextSign (h : GoesBl s s') (a : Int) (h0 : 0 ≤ a) (ha : a ≤ s.size) : Lx.nextSign s' a = Lx.nextSign s a := by
  have hr := longest_le (s.extract a.toNat s.size)
  have hz := extract_size s a.toNat s.size (by omega) (Nat.le_refl _)
  unfold Lx.nextSign
  simp only
  rw [h.longest _ (by omega), h.posOf a ha, h.extract _ _ (by omega)]
theorem GoesBl.nextOf (h : GoesBl s s') (a k : Int) (h0 : 0 ≤ a) (ha : a < s.size) : Lx.nextOf s' a k = Lx.nextOf s a k := by
  unfold Lx.nextOf
  rw [h.nextWord a h0 (by omega), h.nextNum a h0 ha, h.nextSign a h0 (by omega)]
theorem GoesBl.dash (h : GoesBl s s') (a : Int) (h0 : 0 ≤ a) (ha : a < s.size) : Lx.dash s' a = Lx.dash s a := by
  have hz := h.size
  unfold Lx.dash
  by_cases h1 : a + 1 < s.size
  · rw [decide_eq_true h1, decide_eq_true (by omega), h.byte a h0 ha, h.byte (a + 1) (by omega) h1]
  · rw [decide_eq_false h1, Bool.false_and]
    have : (bt s' (a + 1) == 45) = false := by rw [show a + 1 = (s.size : Int) by omega, h.bt_end]; decide
    rw [this, Bool.and_false, Bool.and_false]
end

/-- Enough is enough. -/
theorem layL_fuel (s : ByteArray) : ∀ (f f' : Nat) (a : Int), 0 ≤ a → s.size < a + f → s.size < a + f' → layL s f' a = layL s f a := by
  intro f
  induction f with
  | zero =>
    intro f' a h0 h1 h2
    cases f' with
    | zero => rfl
    | succ f' => rw [layL, layL, if_neg (by omega)]
  | succ f ih =>
    intro f' a h0 h1 h2
    cases f' with
    | zero => rw [layL, layL, if_neg (by omega)]
    | succ f' =>
      simp only [layL]
      split
      · split
        · exact ih f' (a + 1) (by omega) (by omega) (by omega)
        · split
          · rename_i h3 h4 h5
            have hr1 := dash_run s a h0 h5
            generalize run (fun c => c != 10) s a.toNat = k at hr1 ⊢
            exact ih f' _ (by omega) (by omega) (by omega)
          · rfl
      · rfl
theorem lay_fuel (s : ByteArray) (f : Nat) (a : Int) (h0 : 0 ≤ a) (h : s.size < a + f) : layL s f a = lay s a := layL_fuel s _ _ a h0 (by omega) h
/-- What is blank is passed over. -/
theorem lay_step (s : ByteArray) (a : Int) (h0 : 0 ≤ a) (h : a < s.size) (hb : bt s a = 32 ∨ bt s a = 10) : lay s a = lay s (a + 1) := by
  have e : lay s a = layL s s.size (a + 1) := by
    unfold lay
    rw [layL, if_pos h, if_pos hb]
  rw [e, lay_fuel s _ _ (by omega) (by omega)]
theorem lay_end (s : ByteArray) : lay s s.size = s.size := by
  unfold lay
  rw [layL, if_neg (by omega)]
/-- A comment is passed over. -/
theorem lay_dash (s : ByteArray) (a : Int) (h0 : 0 ≤ a) (h : a < s.size) (hd : dash s a = true) : lay s a = lay s (a + (run (fun c => c != 10) s a.toNat : Nat)) := by
  have hr1 := dash_run s a h0 hd
  have hb : ¬ (bt s a = 32 ∨ bt s a = 10) := by
    unfold dash at hd
    simp only [Bool.and_eq_true, decide_eq_true_eq, beq_iff_eq] at hd
    omega
  have e : lay s a = layL s s.size (a + (run (fun c => c != 10) s a.toNat : Nat)) := by
    unfold lay
    rw [layL, if_pos h, if_neg hb, if_pos hd]
  rw [e]
  generalize run (fun c => c != 10) s a.toNat = k at hr1 ⊢
  exact lay_fuel s _ _ (by omega) (by omega)
/-- Where nothing is passed over. -/
theorem lay_stay (s : ByteArray) (a : Int) (hb : ¬ (bt s a = 32 ∨ bt s a = 10)) (hd : dash s a = false) : lay s a = a := by
  unfold lay
  rw [layL]
  split
  · first | rw [if_neg hb, if_neg (by rw [hd]; decide)] | rw [if_neg (by rw [hd]; decide)]
  · rfl

theorem takeWhile_whole (p : UInt8 → Bool) : ∀ l : List UInt8, (∀ b ∈ l, p b = true) → l.takeWhile p = l := by
  intro l
  induction l with
  | nil => intro _; rfl
  | cons b l ih => intro h; rw [List.takeWhile_cons, h b (by simp), if_pos rfl, ih (fun x hx => h x (by simp [hx]))]
/-- Without a new line. -/
def NoNl (l : List UInt8) : Prop := 10 ∉ l
theorem NoNl.run {s : ByteArray} (h : NoNl s.data.toList) (a : Nat) (ha : a ≤ s.size) : Lx.run (fun c => c != 10) s a = s.size - a := by
  unfold Lx.run
  have : (s.data.toList.drop a).takeWhile (fun b => ((b.toNat : Int) != 10)) = s.data.toList.drop a := by
    refine takeWhile_whole _ _ (fun b hb => ?_)
    have : b ≠ 10 := fun e => h (by rw [← e]; exact List.mem_of_mem_drop hb)
    rw [bne_iff_ne]
    intro e
    exact this (UInt8.toNat_inj.1 (by show _ = 10; omega))
  rw [this, List.length_drop, len_data]
theorem adv_line (l : List UInt8) (h : NoNl l) : ∀ p : Int × Int, adv l p = (p.1, p.2 + l.length) := by
  induction l with
  | nil => intro p; simp [adv]
  | cons b l ih =>
    intro p
    have hb : b ≠ 10 := fun e => h (by rw [e]; simp)
    have hl : NoNl l := fun e => h (by simp [e])
    simp only [adv]
    rw [if_neg hb, ih hl]
    simp only [List.length_cons]
    exact Prod.ext rfl (by simp only; omega)
theorem adv_shift (l : List UInt8) : ∀ (p : Int × Int) (d : Int), adv l (p.1 + d, p.2) = ((adv l p).1 + d, (adv l p).2) := by
  induction l with
  | nil => intro p d; rfl
  | cons b l ih =>
    intro p d
    simp only [adv]
    split
    · have := ih (p.1 + 1, 0) d
      simp only at this
      rw [← this]
      congr 2
      omega
    · exact ih (p.1, p.2 + 1) d

/-- RawTo hangs on where layout ends alone. -/
theorem RawTo.at_lay {s : ByteArray} {a b : Int} {l : List Tok} (h : RawTo s a l) (e : lay s b = lay s a) : RawTo s b l := by
  cases h with
  | nil h1 => exact .nil (e.trans h1)
  | cons h1 h2 h3 h4 =>
    have := RawTo.cons (s := s) (a := b) (l := _) (by rw [e]; exact h1) (by rw [e]; exact h2) (by rw [e]; exact h3) (by rw [e]; exact h4)
    rwa [e] at this

end Go.Proofs.YtfnhjdehlikbaaaGreatDoor.Lx

/- A text of two parts: a line, and what comes behind its end. -/
namespace Go.Proofs.YtfnhjdehlikbaaaGreatDoor.Lx
open Go.Proofs.YtfnhjdehlikbaaaGreatDoorW.PrintWords

/-- A token in a text that stands so much deeper. -/
def Tok.shift (n d : Int) (t : Tok) : Tok := t.moved (n + t.at_) (t.line + d, t.col)

theorem RawTo.place {s : ByteArray} {a : Int} {l : List Tok} (h : RawTo s a l) (h0 : 0 ≤ a) : ∀ t ∈ l, 0 ≤ t.at_ ∧ t.at_ < s.size ∧ t.line = (posOf s t.at_).1 ∧ t.col = (posOf s t.at_).2 := by
  induction h with
  | nil _ => intro t ht; cases ht
  | @cons a l hlt hk hb _ ih =>
    have hge : a ≤ lay s a := lay_ge s _ a
    obtain ⟨p1, p2, p3⟩ := next_place s (lay s a) (kindOf (bt s (lay s a)))
    intro t ht
    rcases List.mem_cons.1 ht with rfl | ht
    · rw [p1]
      exact ⟨by omega, hlt, p2, p3⟩
    · exact ih (by omega) t ht

section
variable {x : List UInt8} {X R S : ByteArray}
/-- Behind a line. -/
theorem behind_pos (hx : NoNl x) (h : Behind (x ++ [10]) R S) (b : Int) (h0 : 0 ≤ b) : posOf S ((x ++ [10]).length + b) = ((posOf R b).1 + 1, (posOf R b).2) := by
  rw [h.posOf b h0]
  have e : adv (x ++ [10]) (0, 0) = (0 + 1, 0) := by
    rw [adv_append, adv_line x hx]
    rfl
  rw [e, adv_shift _ (0, 0) 1]
  rfl
theorem behind_next (hx : NoNl x) (h : Behind (x ++ [10]) R S) (b k : Int) (h0 : 0 ≤ b) (hb : b < R.size) :
    nextOf S ((x ++ [10]).length + b) k = ((nextOf R b k).1.shift (x ++ [10]).length 1, (nextOf R b k).2) := by
  rw [h.nextOf b k h0 hb, behind_pos hx h b h0]
  obtain ⟨p1, p2, p3⟩ := next_place R b k
  unfold Tok.shift
  rw [p1, p2, p3]
theorem rawTo_down (hx : NoNl x) (h : Behind (x ++ [10]) R S) {c : Int} {L : List Tok} (hr : RawTo S c L) : ∀ a : Int, c = (x ++ [10]).length + a → 0 ≤ a → a ≤ R.size → ∃ l, RawTo R a l ∧ L = l.map (Tok.shift (x ++ [10]).length 1) := by
  have hz := h.size
  induction hr with
  | nil hend =>
    intro a e h0 h1
    subst e
    rw [h.lay a h0 h1] at hend
    exact ⟨[], .nil (by omega), rfl⟩
  | @cons c l hlt hk hb _ ih =>
    intro a e h0 h1
    subst e
    have hl := h.lay a h0 h1
    have hge : a ≤ lay R a := lay_ge R _ a
    rw [hl] at hlt hk hb ih ⊢
    have hlt2 : lay R a < R.size := by omega
    rw [h.byte _ (by omega)] at hk hb ih ⊢
    have hn := behind_next hx h (lay R a) (kindOf (bt R (lay R a))) (by omega) hlt2
    rw [hn] at hb ih ⊢
    have hnp := next_pos R (lay R a) (by omega) hlt2 hk hb
    have hnf := next_fits R (lay R a) (kindOf (bt R (lay R a))) (by omega) hlt2
    have et : ((nextOf R (lay R a) (kindOf (bt R (lay R a)))).1.shift (x ++ [10]).length 1).text = (nextOf R (lay R a) (kindOf (bt R (lay R a)))).1.text := rfl
    simp only at ih
    rw [et] at ih
    obtain ⟨l', h2, h3⟩ := ih (lay R a + (nextOf R (lay R a) (kindOf (bt R (lay R a)))).1.text.size) (by omega) (by omega) (by omega)
    exact ⟨_, .cons hlt2 hk hb h2, by rw [h3]; rfl⟩
theorem rawTo_up (hx : NoNl x) (h : Behind (x ++ [10]) R S) {a : Int} {l : List Tok} (hr : RawTo R a l) : 0 ≤ a → a ≤ R.size → RawTo S ((x ++ [10]).length + a) (l.map (Tok.shift (x ++ [10]).length 1)) := by
  have hz := h.size
  induction hr with
  | @nil a hend =>
    intro h0 h1
    exact .nil (by rw [h.lay a h0 h1]; omega)
  | @cons a l hlt hk hb _ ih =>
    intro h0 h1
    have hl := h.lay a h0 h1
    have hge : a ≤ lay R a := lay_ge R _ a
    have hnp := next_pos R (lay R a) (by omega) hlt hk hb
    have hnf := next_fits R (lay R a) (kindOf (bt R (lay R a))) (by omega) hlt
    have hn := behind_next hx h (lay R a) (kindOf (bt R (lay R a))) (by omega) hlt
    have ih2 := ih (by omega) (by omega)
    have hby := h.byte (lay R a) (by omega)
    have := RawTo.cons (s := S) (a := (x ++ [10]).length + a) (l := l.map (Tok.shift (x ++ [10]).length 1)) (by rw [hl]; omega) (by rw [hl, hby]; exact hk) (by rw [hl, hby, hn]; exact hb)
      (by
        rw [hl, hby, hn]
        rw [← Int.add_assoc] at ih2
        exact ih2)
    rw [hl, hby, hn] at this
    exact this

/-- Where the line ends in layout, the layout goes on. -/
theorem lay_cross (h : GoesOn X S) : ∀ (f : Nat) (a : Int), 0 ≤ a → a ≤ X.size → X.size < a + f → layL X f a = X.size → lay S a = lay S (X.size + 1) := by
  have hz := h.size
  intro f
  induction f with
  | zero => intro a h0 h1 h2; omega
  | succ f ih =>
    intro a h0 h1 h2 h3
    by_cases hlt : a < X.size
    · have hb := h.byte a h0 hlt
      have hd := h.dash a h0 hlt
      rw [layL, if_pos hlt] at h3
      split at h3
      · rename_i hbb
        rw [lay_step S a h0 (by omega) (by rw [hb]; exact hbb)]
        exact ih (a + 1) (by omega) (by omega) (by omega) h3
      · split at h3
        · rename_i hdd
          rw [lay_dash S a h0 (by omega) (by rw [hd]; exact hdd), h.run (fun c => c != 10) (by decide) _ (by omega)]
          have hr := run_le (fun c => c != 10) X a.toNat (by omega)
          have hr1 := dash_run X a h0 hdd
          generalize run (fun c => c != 10) X a.toNat = k at hr hr1 h3 ⊢
          exact ih _ (by omega) (by omega) (by omega) h3
        · omega
    · obtain rfl : a = X.size := by omega
      exact lay_step S _ (by omega) (by omega) (.inr h.bt_end)

variable (hX : X.data.toList = x) (hS : S.data.toList = x ++ 10 :: R.data.toList)
theorem rawTo_split (hX : X.data.toList = x) (hS : S.data.toList = x ++ 10 :: R.data.toList) (hx : NoNl x) {a : Int} {L : List Tok} (hr : RawTo S a L) (h0 : 0 ≤ a) (h1 : a ≤ X.size) :
    ∃ l1 l2, RawTo X a l1 ∧ RawTo R 0 l2 ∧ L = l1 ++ l2.map (Tok.shift ((X.size : Int) + 1) 1) := by
  have hg : GoesOn X S := ⟨R.data.toList, by rw [hX, hS]⟩
  have hb : Behind (x ++ [10]) R S := ⟨by rw [hS]; simp⟩
  have hl : ((x ++ [10]).length : Int) = X.size + 1 := by
    rw [List.length_append, ← hX, len_data]
    simp
  have hz := hg.size
  induction hr with
  | @nil a hend =>
    obtain ⟨g1, g2⟩ := hg.lay a h0 h1
    have hle : lay X a ≤ X.size := layL_le X _ a h0 h1
    have e : lay X a = X.size := by
      by_cases h : lay X a < X.size
      · have := g1 h; omega
      · omega
    have e2 := lay_cross hg _ a h0 h1 (by omega) e
    obtain ⟨l, h2, h3⟩ := rawTo_down hx hb (RawTo.at_lay (RawTo.nil hend) e2.symm) 0 (by omega) (by omega) (by omega)
    rw [hl] at h3
    exact ⟨[], l, .nil e, h2, h3⟩
  | @cons a l hlt hk hbad hr2 ih =>
    obtain ⟨g1, g2⟩ := hg.lay a h0 h1
    have hle : lay X a ≤ X.size := layL_le X _ a h0 h1
    have hge : a ≤ lay X a := lay_ge X _ a
    by_cases hc : lay X a < X.size
    · have e := g1 hc
      rw [e] at hlt hk hbad ih ⊢
      have hby := hg.byte (lay X a) (by omega) hc
      have hn := hg.nextOf (lay X a) (kindOf (bt X (lay X a))) (by omega) hc
      rw [hby] at hk hbad ih ⊢
      rw [hn] at hbad ih ⊢
      have hnf := next_fits X (lay X a) (kindOf (bt X (lay X a))) (by omega) hc
      have hnp := next_pos X (lay X a) (by omega) hc hk hbad
      obtain ⟨l1, l2, h2, h3, h4⟩ := ih (by omega) (by omega)
      exact ⟨_ :: l1, l2, .cons hc hk hbad h2, h3, by rw [h4]; rfl⟩
    · have e : lay X a = X.size := by omega
      have e2 := lay_cross hg _ a h0 h1 (by omega) e
      obtain ⟨l', h2, h3⟩ := rawTo_down hx hb (RawTo.at_lay (RawTo.cons hlt hk hbad hr2) e2.symm) 0 (by omega) (by omega) (by omega)
      rw [hl] at h3
      exact ⟨[], l', .nil e, h2, h3⟩
theorem rawTo_join (hX : X.data.toList = x) (hS : S.data.toList = x ++ 10 :: R.data.toList) (hx : NoNl x) {a : Int} {l1 l2 : List Tok} (hr : RawTo X a l1) (hr2 : RawTo R 0 l2) (h0 : 0 ≤ a) (h1 : a ≤ X.size) :
    RawTo S a (l1 ++ l2.map (Tok.shift ((X.size : Int) + 1) 1)) := by
  have hg : GoesOn X S := ⟨R.data.toList, by rw [hX, hS]⟩
  have hb : Behind (x ++ [10]) R S := ⟨by rw [hS]; simp⟩
  have hl : ((x ++ [10]).length : Int) = X.size + 1 := by
    rw [List.length_append, ← hX, len_data]
    simp
  have hz := hg.size
  induction hr with
  | @nil a e =>
    have e2 := lay_cross hg _ a h0 h1 (by omega) e
    have := rawTo_up hx hb hr2 (by omega) (by omega)
    rw [hl, Int.add_zero] at this
    exact RawTo.at_lay this e2
  | @cons a l hc hk hbad hr3 ih =>
    obtain ⟨g1, g2⟩ := hg.lay a h0 h1
    have hge : a ≤ lay X a := lay_ge X _ a
    have e := g1 hc
    have hby := hg.byte (lay X a) (by omega) hc
    have hn := hg.nextOf (lay X a) (kindOf (bt X (lay X a))) (by omega) hc
    have hnf := next_fits X (lay X a) (kindOf (bt X (lay X a))) (by omega) hc
    have hnp := next_pos X (lay X a) (by omega) hc hk hbad
    have := RawTo.cons (s := S) (a := a) (l := l ++ l2.map (Tok.shift ((X.size : Int) + 1) 1)) (by rw [e]; omega) (by rw [e, hby]; exact hk) (by rw [e, hby, hn]; exact hbad) (by rw [e, hby, hn]; exact ih (by omega) (by omega))
    rw [e, hby, hn] at this
    exact this
end

end Go.Proofs.YtfnhjdehlikbaaaGreatDoor.Lx

/- A line moved to the right, and a comment behind it; lines without tokens. -/
namespace Go.Proofs.YtfnhjdehlikbaaaGreatDoor.Lx
open Go.Proofs.YtfnhjdehlikbaaaGreatDoorW.PrintWords

/-- A comment, from an index on, ends the line's layout. -/
theorem lay_comment {s : ByteArray} (hs : NoNl s.data.toList) (a : Int) (h0 : 0 ≤ a) (h : a < s.size) (hd : dash s a = true) : lay s a = s.size := by
  rw [lay_dash s a h0 h hd, hs.run _ (by omega), show a + ((s.size - a.toNat : Nat) : Int) = s.size by omega]
  exact lay_end s

theorem dash_of (s : ByteArray) (a : Nat) (r : List UInt8) (h : s.data.toList.drop a = 45 :: 45 :: r) : dash s a = true ∧ a < s.size := by
  have hlen : a + 2 ≤ s.size := by
    have := congrArg List.length h
    rw [List.length_drop, len_data] at this
    simp at this
    omega
  have e0 : s.data.toList[a]? = some 45 := by
    have := congrArg (fun l => l[0]?) h
    simpa using this
  have e1 : s.data.toList[a + 1]? = some 45 := by
    have := congrArg (fun l => l[1]?) h
    simpa using this
  refine ⟨?_, by omega⟩
  unfold dash
  rw [bt_list _ _ (by omega), bt_list _ _ (by omega), Int.toNat_natCast, e0, show ((a : Int) + 1).toNat = a + 1 by omega, e1, decide_eq_true (by omega)]
  rfl

section
variable {X X1 : ByteArray} {x nm : List UInt8}
/-- Where layout ends, with a comment behind the line. -/
theorem lay_bl (hX : X.data.toList = x) (hX1 : X1.data.toList = x ++ 32 :: 45 :: 45 :: 32 :: nm) (hx : NoNl x) (hn : NoNl nm) : ∀ (f : Nat) (a : Int), 0 ≤ a → a ≤ X.size → X.size < a + f → (layL X f a < X.size → lay X1 a = layL X f a) ∧ (layL X f a = X.size → lay X1 a = X1.size) := by
  have hg : GoesBl X X1 := ⟨45 :: 45 :: 32 :: nm, by rw [hX, hX1]⟩
  have hz := hg.size
  have hno : NoNl X1.data.toList := by
    rw [hX1]
    intro h
    simp at h
    rcases h with h | h
    · exact hx h
    · exact hn h
  have hno2 : NoNl X.data.toList := by rw [hX]; exact hx
  intro f
  induction f with
  | zero => intro a h0 h1 h2; omega
  | succ f ih =>
    intro a h0 h1 h2
    by_cases hlt : a < X.size
    · have hb := hg.byte a h0 hlt
      have hd := hg.dash a h0 hlt
      rw [layL, if_pos hlt]
      split
      · rename_i hbb
        rw [lay_step X1 a h0 (by omega) (by rw [hb]; exact hbb)]
        exact ih (a + 1) (by omega) (by omega) (by omega)
      · rename_i hbb
        split
        · rename_i hdd
          have hl1 := lay_comment hno a h0 (by omega) (by rw [hd]; exact hdd)
          rw [hno2.run _ (by omega), show a + ((X.size - a.toNat : Nat) : Int) = X.size by omega]
          have hlL : layL X f X.size = X.size := by
            rcases f with _ | f
            · rfl
            · rw [layL, if_neg (by omega)]
          rw [hlL]
          exact ⟨fun h => by omega, fun _ => hl1⟩
        · rename_i hdd
          have := lay_stay X1 a (by rw [hb]; exact hbb) (by rw [hd]; simpa using hdd)
          exact ⟨fun _ => this, fun h => by omega⟩
    · obtain rfl : a = X.size := by omega
      rw [layL, if_neg hlt]
      refine ⟨fun h => absurd h hlt, fun _ => ?_⟩
      rw [lay_step X1 _ (by omega) (by omega) (.inl hg.bt_end)]
      have hdr : X1.data.toList.drop (X.size + 1) = 45 :: 45 :: 32 :: nm := by
        rw [hX1, ← len_data X, hX, ← List.drop_drop, List.drop_left]
        rfl
      obtain ⟨d1, d2⟩ := dash_of X1 (X.size + 1) _ hdr
      exact lay_comment hno _ (by omega) (by omega) (by simpa using d1)
theorem rawTo_comment (hX : X.data.toList = x) (hX1 : X1.data.toList = x ++ 32 :: 45 :: 45 :: 32 :: nm) (hx : NoNl x) (hn : NoNl nm) {a : Int} {l : List Tok} (hr : RawTo X a l) : 0 ≤ a → a ≤ X.size → RawTo X1 a l := by
  have hg : GoesBl X X1 := ⟨45 :: 45 :: 32 :: nm, by rw [hX, hX1]⟩
  have hz := hg.size
  induction hr with
  | @nil a e =>
    intro h0 h1
    exact .nil ((lay_bl hX hX1 hx hn _ a h0 h1 (by omega)).2 e)
  | @cons a l hc hk hbad _ ih =>
    intro h0 h1
    have hge : a ≤ lay X a := lay_ge X _ a
    have e : lay X1 a = lay X a := (lay_bl hX hX1 hx hn _ a h0 h1 (by omega)).1 hc
    have hby := hg.byte (lay X a) (by omega) hc
    have hn := hg.nextOf (lay X a) (kindOf (bt X (lay X a))) (by omega) hc
    have hnf := next_fits X (lay X a) (kindOf (bt X (lay X a))) (by omega) hc
    have hnp := next_pos X (lay X a) (by omega) hc hk hbad
    have := RawTo.cons (s := X1) (a := a) (l := l) (by rw [e]; omega) (by rw [e, hby]; exact hk) (by rw [e, hby, hn]; exact hbad) (by rw [e, hby, hn]; exact ih (by omega) (by omega))
    rw [e, hby, hn] at this
    exact this
end

/-- A token in a line that is moved to the right. -/
def Tok.right (k : Int) (t : Tok) : Tok := t.moved (k + t.at_) (t.line, t.col + k)

theorem noNl_rep (k : Nat) : NoNl (List.replicate k 32) := by
  intro h
  have := List.eq_of_mem_replicate h
  exact absurd this (by decide)
theorem noNl_take {l : List UInt8} (h : NoNl l) (n : Nat) : NoNl (l.take n) := fun e => h (List.mem_of_mem_take e)
theorem posOf_line {s : ByteArray} (h : NoNl s.data.toList) (a : Int) (h0 : 0 ≤ a) (ha : a ≤ s.size) : posOf s a = (0, a) := by
  unfold posOf
  rw [adv_line _ (noNl_take h _), List.length_take, len_data]
  exact Prod.ext rfl (by simp only; omega)

/-- Blanks ahead are passed over. -/
theorem lay_blanks {p : List UInt8} {R S : ByteArray} (k : Nat) (hp : p = List.replicate k 32) (h : Behind p R S) : ∀ j, j ≤ k → lay S ((k : Int) - j) = lay S k := by
  have hz := h.size
  subst hp
  rw [List.length_replicate] at hz
  intro j
  induction j with
  | zero => intro _; rw [show (k : Int) - ((0 : Nat) : Int) = k by omega]
  | succ j ih =>
    intro hj
    rw [← ih (by omega)]
    have hb : bt S ((k : Int) - ((j + 1 : Nat) : Int)) = 32 := by
      rw [bt_list _ _ (by omega), h.data, List.getElem?_append_left (by rw [List.length_replicate]; omega), List.getElem?_replicate, if_pos (by omega)]
      rfl
    rw [lay_step S _ (by omega) (by omega) (.inl hb)]
    congr 1
    omega
section
variable {X X' : ByteArray}
theorem rawTo_right (k : Nat) (h : Behind (List.replicate k 32) X X') (hx : NoNl X.data.toList) {a : Int} {l : List Tok} (hr : RawTo X a l) : 0 ≤ a → a ≤ X.size → RawTo X' ((k : Int) + a) (l.map (Tok.right k)) := by
  have hz := h.size
  have hlr : (List.replicate k (32 : UInt8)).length = k := List.length_replicate
  rw [hlr] at hz
  induction hr with
  | @nil a e =>
    intro h0 h1
    have hl := h.lay a h0 h1
    rw [hlr] at hl
    exact .nil (by rw [hl]; omega)
  | @cons a l hc hk hbad _ ih =>
    intro h0 h1
    have hl := h.lay a h0 h1
    have hge : a ≤ lay X a := lay_ge X _ a
    have hby := h.byte (lay X a) (by omega)
    have hn := h.nextOf (lay X a) (kindOf (bt X (lay X a))) (by omega) hc
    have hnf := next_fits X (lay X a) (kindOf (bt X (lay X a))) (by omega) hc
    have hnp := next_pos X (lay X a) (by omega) hc hk hbad
    obtain ⟨p1, p2, p3⟩ := next_place X (lay X a) (kindOf (bt X (lay X a)))
    have hpos : posOf X' ((k : Int) + lay X a) = ((nextOf X (lay X a) (kindOf (bt X (lay X a)))).1.line, (nextOf X (lay X a) (kindOf (bt X (lay X a)))).1.col + k) := by
      have e := h.posOf (lay X a) (by omega)
      rw [hlr] at e
      rw [e, p2, p3, posOf_line hx _ (by omega) (by omega), adv_line _ (noNl_rep k), adv_line _ (noNl_take hx _), List.length_take, len_data, hlr]
      exact Prod.ext rfl (by simp only; omega)
    rw [hlr] at hl hby hn
    have hn2 : nextOf X' ((k : Int) + lay X a) (kindOf (bt X (lay X a))) = ((nextOf X (lay X a) (kindOf (bt X (lay X a)))).1.right k, (nextOf X (lay X a) (kindOf (bt X (lay X a)))).2) := by
      rw [hn, hpos]
      unfold Tok.right
      rw [p1]
    have ih2 := ih (by omega) (by omega)
    have := RawTo.cons (s := X') (a := (k : Int) + a) (l := l.map (Tok.right k)) (by rw [hl]; omega) (by rw [hl, hby]; exact hk) (by rw [hl, hby, hn2]; exact hbad) (by
      rw [hl, hby, hn2]
      rw [← Int.add_assoc] at ih2
      exact ih2)
    rw [hl, hby, hn2] at this
    exact this
end

/-- What a line may become. -/
def MLine (k : Nat) (x x' : List UInt8) : Prop := x' = List.replicate k 32 ++ x ∨ ∃ nm, NoNl nm ∧ x' = List.replicate k 32 ++ (x ++ 32 :: 45 :: 45 :: 32 :: nm)
/-- A line without tokens. -/
def MBlank (y : List UInt8) : Prop := ∃ j : Nat, y = List.replicate j 32 ∨ ∃ nm, NoNl nm ∧ y = List.replicate j 32 ++ 45 :: 45 :: nm

theorem rawTo_mline {k : Nat} {x x' : List UInt8} {X X' : ByteArray} (hm : MLine k x x') (hX : X.data.toList = x) (hX' : X'.data.toList = x') (hx : NoNl x) {l : List Tok} (hr : RawTo X 0 l) : RawTo X' 0 (l.map (Tok.right k)) := by
  have key : ∀ Z : ByteArray, Behind (List.replicate k 32) Z X' → NoNl Z.data.toList → RawTo Z 0 l → RawTo X' 0 (l.map (Tok.right k)) := fun Z hb hz hr => by
    have h1 := rawTo_right k hb hz hr (by omega) (by omega)
    have h2 := lay_blanks k rfl hb k (Nat.le_refl _)
    rw [Int.add_zero] at h1
    exact RawTo.at_lay h1 (by rw [← h2]; congr 1; omega)
  rcases hm with rfl | ⟨nm, hn, rfl⟩
  · exact key X ⟨by rw [hX', hX]⟩ (by rw [hX]; exact hx) hr
  · obtain ⟨Z, hZ⟩ : ∃ Z : ByteArray, Z.data.toList = x ++ 32 :: 45 :: 45 :: 32 :: nm := ⟨⟨(x ++ 32 :: 45 :: 45 :: 32 :: nm).toArray⟩, by simp⟩
    refine key Z ⟨by rw [hX', hZ]⟩ ?_ (rawTo_comment hX hZ hx hn hr (by omega) (by omega))
    rw [hZ]
    intro h
    simp at h
    rcases h with h | h
    · exact hx h
    · exact hn h
theorem rawTo_blank {y : List UInt8} {Y : ByteArray} (hm : MBlank y) (hY : Y.data.toList = y) : RawTo Y 0 [] := by
  obtain ⟨j, hj⟩ := hm
  have key : ∀ Z : ByteArray, Behind (List.replicate j 32) Z Y → lay Y j = Y.size → RawTo Y 0 [] := fun Z hb he => by
    have h2 := lay_blanks j rfl hb j (Nat.le_refl _)
    refine .nil ?_
    rw [← he, ← h2]
    congr 1
    omega
  rcases hj with rfl | ⟨nm, hn, rfl⟩
  · refine key ⟨#[]⟩ ⟨by rw [hY]; simp⟩ ?_
    have : Y.size = j := by rw [← len_data, hY, List.length_replicate]
    rw [← this]
    exact lay_end Y
  · refine key ⟨(45 :: 45 :: nm).toArray⟩ ⟨by rw [hY]⟩ ?_
    have hno : NoNl Y.data.toList := by
      rw [hY]
      intro h
      rcases List.mem_append.1 h with h | h
      · exact noNl_rep j h
      · simp at h
        exact hn h
    obtain ⟨d1, d2⟩ := dash_of Y j nm (by rw [hY]; simp)
    exact lay_comment hno _ (by omega) (by omega) d1

end Go.Proofs.YtfnhjdehlikbaaaGreatDoor.Lx

/- Lines moved, lines put in, comments at ends of lines: the same raw tokens but for their places. -/
namespace Go.Proofs.YtfnhjdehlikbaaaGreatDoor.Lx
open Go.Proofs.YtfnhjdehlikbaaaGreatDoorW.PrintWords

/-- Tokens in other places: the lines by a function, the columns moved. -/
structure MTok (φ : Int → Int) (k : Int) (t t' : Tok) : Prop where
  kind : t'.kind = t.kind
  num : t'.num = t.num
  text : t'.text = t.text
  line : t'.line = φ t.line
  col : t'.col = t.col + k
inductive MToks (φ : Int → Int) (k : Int) : List Tok → List Tok → Prop
  | nil : MToks φ k [] []
  | cons {t t' : Tok} {l l' : List Tok} : MTok φ k t t' → MToks φ k l l' → MToks φ k (t :: l) (t' :: l')
/-- Later lines stay later. -/
structure Mono (φ : Int → Int) : Prop where
  low : ∀ a, 0 ≤ a → 0 ≤ φ a
  up : ∀ a b, 0 ≤ a → a < b → φ a < φ b

theorem MToks.len {φ : Int → Int} {k : Int} {l l' : List Tok} (h : MToks φ k l l') : l'.length = l.length := by
  induction h with
  | nil => rfl
  | cons _ _ ih => rw [List.length_cons, List.length_cons, ih]
theorem MToks.append {φ : Int → Int} {k : Int} {l l' m m' : List Tok} (h : MToks φ k l l') (h2 : MToks φ k m m') : MToks φ k (l ++ m) (l' ++ m') := by
  induction h with
  | nil => exact h2
  | cons h1 _ ih => exact .cons h1 ih
theorem MToks.right {φ : Int → Int} {k : Nat} : ∀ l : List Tok, (∀ t ∈ l, φ t.line = t.line) → MToks φ k l (l.map (Tok.right k)) := by
  intro l
  induction l with
  | nil => intro _; exact .nil
  | cons t l ih => intro h; exact .cons ⟨rfl, rfl, rfl, (h t (by simp)).symm, rfl⟩ (ih (fun x hx => h x (by simp [hx])))
theorem MToks.shift {φ ψ : Int → Int} {k n n' : Int} {l l' : List Tok} (h : MToks φ k l l') (hp : ∀ t ∈ l, ψ (t.line + 1) = φ t.line + 1) : MToks ψ k (l.map (Tok.shift n 1)) (l'.map (Tok.shift n' 1)) := by
  induction h with
  | nil => exact .nil
  | @cons t t' l l' h1 _ ih =>
    refine .cons ⟨h1.kind, h1.num, h1.text, ?_, h1.col⟩ (ih (fun x hx => hp x (by simp [hx])))
    have := hp t (by simp)
    show t'.line + 1 = ψ (t.line + 1)
    rw [this, h1.line]
theorem MToks.put {φ ψ : Int → Int} {k n' : Int} {l l' : List Tok} (h : MToks φ k l l') (hp : ∀ t ∈ l, ψ t.line = φ t.line + 1) : MToks ψ k l (l'.map (Tok.shift n' 1)) := by
  induction h with
  | nil => exact .nil
  | @cons t t' l l' h1 _ ih =>
    refine .cons ⟨h1.kind, h1.num, h1.text, ?_, h1.col⟩ (ih (fun x hx => hp x (by simp [hx])))
    have := hp t (by simp)
    show t'.line + 1 = ψ t.line
    rw [this, h1.line]

/-- What lines may become. -/
inductive Moved (k : Nat) : List (List UInt8) → List (List UInt8) → Prop
  | one {x x' : List UInt8} : MLine k x x' → Moved k [x] [x']
  | line {x x' : List UInt8} {xs ys : List (List UInt8)} : MLine k x x' → Moved k xs ys → Moved k (x :: xs) (x' :: ys)
  | put {y : List UInt8} {xs ys : List (List UInt8)} : MBlank y → Moved k xs ys → Moved k xs (y :: ys)
theorem Moved.ne {k : Nat} {xs ys : List (List UInt8)} (h : Moved k xs ys) : xs ≠ [] ∧ ys ≠ [] := by
  induction h with
  | one _ => exact ⟨by simp, by simp⟩
  | line _ _ _ => exact ⟨by simp, by simp⟩
  | put _ _ ih => exact ⟨ih.1, by simp⟩

def joinN (xs : List (List UInt8)) : List UInt8 := Lib.join xs [10]
theorem joinN_one (x : List UInt8) : joinN [x] = x := by simp [joinN, Lib.join]
theorem joinN_cons (x : List UInt8) (xs : List (List UInt8)) (h : xs ≠ []) : joinN (x :: xs) = x ++ 10 :: joinN xs := by
  cases xs with
  | nil => exact absurd rfl h
  | cons y r => simp [joinN, Lib.join, List.intercalate]

def bytes (l : List UInt8) : ByteArray := ⟨l.toArray⟩
theorem bytes_list (l : List UInt8) : (bytes l).data.toList = l := by simp [bytes]

theorem rawTo_moved {k : Nat} {xs ys : List (List UInt8)} (h : Moved k xs ys) : (∀ x ∈ xs, NoNl x) → ∀ l, RawTo (bytes (joinN xs)) 0 l → ∃ l' φ, RawTo (bytes (joinN ys)) 0 l' ∧ MToks φ k l l' ∧ Mono φ := by
  induction h with
  | @one x x' hm =>
    intro hx l hr
    rw [joinN_one] at hr ⊢
    have hno := hx x (by simp)
    refine ⟨_, id, rawTo_mline hm (bytes_list x) (bytes_list x') hno hr, MToks.right l (fun _ _ => rfl), ⟨fun a h => h, fun a b _ h => h⟩⟩
  | @line x x' xs ys hm hmv ih =>
    intro hx l hr
    have hno := hx x (by simp)
    rw [joinN_cons _ _ hmv.ne.1] at hr
    obtain ⟨l1, l2, h1, h2, rfl⟩ := rawTo_split (x := x) (X := bytes x) (R := bytes (joinN xs)) (bytes_list x) (by rw [bytes_list, bytes_list]) hno hr (by omega) (by omega)
    obtain ⟨l2', φ, h3, h4, h5⟩ := ih (fun y hy => hx y (by simp [hy])) l2 h2
    have h1' := rawTo_mline hm (bytes_list x) (bytes_list x') hno h1
    have hno' : NoNl x' := by
      rcases hm with rfl | ⟨nm, hn, rfl⟩
      · intro h
        rcases List.mem_append.1 h with h | h
        · exact noNl_rep k h
        · exact hno h
      · intro h
        rcases List.mem_append.1 h with h | h
        · exact noNl_rep k h
        · simp at h
          rcases h with h | h
          · exact hno h
          · exact hn h
    have hj := rawTo_join (x := x') (X := bytes x') (R := bytes (joinN ys)) (S := bytes (joinN (x' :: ys))) (bytes_list x') (by rw [bytes_list, bytes_list, joinN_cons _ _ hmv.ne.2]) hno' h1' h3 (by omega) (by omega)
    have hp1 := h1.place (by omega)
    have hp2 := h2.place (by omega)
    refine ⟨_, fun n => if n ≤ 0 then n else φ (n - 1) + 1, hj, MToks.append (MToks.right l1 (fun t ht => ?_)) (h4.shift (fun t ht => ?_)), ⟨fun a ha => ?_, fun a b ha hab => ?_⟩⟩
    · obtain ⟨p0, p1, p2, _⟩ := hp1 t ht
      have hl : t.line = 0 := by rw [p2, posOf_line (by rw [bytes_list]; exact hno) _ p0 (by omega)]
      rw [hl]
      rfl
    · obtain ⟨p0, p1, p2, _⟩ := hp2 t ht
      have := (posOf_le (bytes (joinN xs)) t.at_).1
      try simp only
      rw [if_neg (by omega), Int.add_sub_cancel]
    · try simp only
      split
      · exact ha
      · have := h5.low (a - 1) (by omega)
        omega
    · try simp only
      rw [if_neg (show ¬ b ≤ 0 by omega)]
      split
      · have := h5.low (b - 1) (by omega)
        omega
      · have := h5.up (a - 1) (b - 1) (by omega) (by omega)
        omega
  | @put y xs ys hb hmv ih =>
    intro hx l hr
    obtain ⟨l', φ, h3, h4, h5⟩ := ih hx l hr
    have hno : NoNl y := by
      obtain ⟨j, rfl | ⟨nm, hn, rfl⟩⟩ := hb
      · exact noNl_rep j
      · intro h
        rcases List.mem_append.1 h with h | h
        · exact noNl_rep j h
        · simp at h
          exact hn h
    have hj := rawTo_join (x := y) (X := bytes y) (R := bytes (joinN ys)) (S := bytes (joinN (y :: ys))) (bytes_list y) (by rw [bytes_list, bytes_list, joinN_cons _ _ hmv.ne.2]) hno (rawTo_blank hb (bytes_list y)) h3 (by omega) (by omega)
    refine ⟨_, fun n => φ n + 1, hj, h4.put (fun t ht => rfl), ⟨fun a ha => ?_, fun a b ha hab => ?_⟩⟩
    · have := h5.low a ha
      try simp only
      omega
    · have := h5.up a b ha hab
      try simp only
      omega

end Go.Proofs.YtfnhjdehlikbaaaGreatDoor.Lx

/- Tokens in other places: the layer's work is the same but for the places. -/
namespace Go.Proofs.YtfnhjdehlikbaaaGreatDoor.Lx
open Go.Proofs.YtfnhjdehlikbaaaGreatDoorW.PrintWords

/-- A level with its column moved. -/
def Lev.up (k : Int) (v : Lev) : Lev := if v.block = true then { v with col := v.col + k } else v
theorem Lev.up_block (k : Int) (v : Lev) : (v.up k).block = v.block := by
  unfold Lev.up
  split <;> rfl
theorem Lev.up_text (k : Int) (v : Lev) : (v.up k).text = v.text := by
  unfold Lev.up
  split <;> rfl
theorem Lev.up_col (k : Int) (v : Lev) (h : v.block = true) : (v.up k).col = v.col + k := by
  unfold Lev.up
  rw [if_pos h]
theorem topF_up (k : Int) (st : List Lev) : topF (st.map (Lev.up k)) = (topF st).up k := by
  unfold topF
  rw [List.getLast?_map]
  cases st.getLast? <;> rfl

section
variable {φ : Int → Int} {k : Int} {t t' nx nx' : Tok} {out out' : List Tok} {st : List Lev}
theorem MTok.mark (h : MTok φ k t t') (n : Int) : MTok φ k (markF n t) (markF n t') := ⟨rfl, rfl, rfl, h.line, h.col⟩
theorem MToks.snoc (h : MToks φ k out out') (ht : MTok φ k t t') : MToks φ k (out ++ [t]) (out' ++ [t']) := h.append (.cons ht .nil)

theorem shutF_up {p p' : Lev → Bool} (hp : ∀ v : Lev, v.block = true → p' (v.up k) = p v) (ht : MTok φ k t t') : ∀ (n : Nat) (st : List Lev) (out out' : List Tok), st.length = n → MToks φ k out out' →
    (shutF p' t' (st.map (Lev.up k)) out').1 = (shutF p t st out).1.map (Lev.up k) ∧ MToks φ k (shutF p t st out).2 (shutF p' t' (st.map (Lev.up k)) out').2 := by
  intro n
  induction n with
  | zero =>
    intro st out out' h ho
    rw [List.eq_nil_of_length_eq_zero h]
    exact ⟨rfl, ho⟩
  | succ n ih =>
    intro st out out' h ho
    rcases List.eq_nil_or_concat st with rfl | ⟨s, v, rfl⟩
    · simp at h
    · rw [List.concat_eq_append] at *
      have hs : s.length = n := by simpa using h
      rw [List.map_append, List.map_singleton]
      have e : ((v.up k).block && p' (v.up k)) = (v.block && p v) := by
        rw [Lev.up_block]
        cases hb : v.block with
        | false => rfl
        | true => rw [hp v hb]
      cases hv : (v.block && p v) with
      | true =>
        rw [shutF_go hv, shutF_go (by rw [e, hv])]
        exact ih s _ _ hs (ho.snoc (ht.mark 7))
      | false =>
        rw [shutF_stop hv, shutF_stop (by rw [e, hv]), List.map_append, List.map_singleton]
        exact ⟨rfl, ho⟩
theorem deeper_up (ht : MTok φ k t t') (v : Lev) (h : v.block = true) : deeper t' (v.up k) = deeper t v := by
  unfold deeper
  rw [Lev.up_col k v h, ht.col]
  by_cases hh : v.col > t.col
  · rw [decide_eq_true hh, decide_eq_true (by omega)]
  · rw [decide_eq_false hh, decide_eq_false (by omega)]
theorem closing_up (ht : MTok φ k t t') : closing t' = closing t := by unfold closing Tok.sign; rw [ht.kind, ht.text]
theorem opening_up (ht : MTok φ k t t') : opening t' = opening t := by unfold opening Tok.sign; rw [ht.kind, ht.text]
theorem withs_up (ht : MTok φ k t t') : withs t' = withs t := by unfold withs Tok.sign; rw [ht.kind, ht.text]

theorem badA_up (ht : MTok φ k t t') (bg : Bool) (ho : MToks φ k out out') : badA t' bg (st.map (Lev.up k)) out' = badA t bg st out := by
  unfold badA
  obtain ⟨h1, _⟩ := shutF_up (fun v h => deeper_up ht v h) ht _ st out out' rfl ho
  rw [h1, List.isEmpty_map]
theorem oneA_up (ht : MTok φ k t t') (bg : Bool) (ho : MToks φ k out out') : (oneA t' bg (st.map (Lev.up k)) out').1 = (oneA t bg st out).1.map (Lev.up k) ∧ MToks φ k (oneA t bg st out).2 (oneA t' bg (st.map (Lev.up k)) out').2 := by
  unfold oneA
  cases bg with
  | false => exact ⟨rfl, ho⟩
  | true =>
    obtain ⟨h1, h2⟩ := shutF_up (fun v h => deeper_up ht v h) ht _ st out out' rfl ho
    rw [if_pos rfl, if_pos rfl]
    simp only
    generalize shutF (deeper t) t st out = r at h1 h2 ⊢
    generalize shutF (deeper t') t' (st.map (Lev.up k)) out' = r' at h1 h2 ⊢
    rw [h1, topF_up, Lev.up_block]
    refine ⟨rfl, ?_⟩
    have e : ((topF r.1).block && (((topF r.1).up k).col == t'.col)) = ((topF r.1).block && ((topF r.1).col == t.col)) := by
      cases hb : (topF r.1).block with
      | false => rfl
      | true =>
        rw [Lev.up_col k _ hb, ht.col]
        congr 1
        by_cases h : (topF r.1).col = t.col
        · rw [h]; simp
        · rw [beq_eq_false_iff_ne.2 h, beq_eq_false_iff_ne.2 (by omega)]
    rw [e]
    split
    · exact h2.snoc (ht.mark 6)
    · exact h2
theorem badB_up (ht : MTok φ k t t') (ho : MToks φ k out out') : badB t' (st.map (Lev.up k)) out' = badB t st out := by
  unfold badB
  obtain ⟨h1, _⟩ := shutF_up (p := anyL) (p' := anyL) (fun v h => rfl) ht _ st out out' rfl ho
  rw [closing_up ht, h1, List.isEmpty_map, topF_up, Lev.up_text, ht.text]
theorem oneB_up (ht : MTok φ k t t') (ho : MToks φ k out out') : (oneB t' (st.map (Lev.up k)) out').1 = (oneB t st out).1.map (Lev.up k) ∧ MToks φ k (oneB t st out).2 (oneB t' (st.map (Lev.up k)) out').2 := by
  unfold oneB
  obtain ⟨h1, h2⟩ := shutF_up (p := anyL) (p' := anyL) (fun v h => rfl) ht _ st out out' rfl ho
  rw [closing_up ht]
  split
  · exact ⟨by simp only; rw [h1, List.map_dropLast], h2⟩
  · exact ⟨rfl, ho⟩
theorem lastF_up (h : Base st) : (lastF (st.map (Lev.up k))).col = (lastF st).col + k := by
  unfold lastF
  rw [← List.map_reverse]
  have hf : ∀ l : List Lev, (l.map (Lev.up k)).find? (·.block) = (l.find? (·.block)).map (Lev.up k) := by
    intro l
    induction l with
    | nil => rfl
    | cons v l ih =>
      rw [List.map_cons, List.find?_cons, List.find?_cons, Lev.up_block]
      cases v.block with
      | true => rfl
      | false => exact ih
  rw [hf]
  cases hh : st.reverse.find? (·.block) with
  | some v =>
    have := List.find?_some hh
    exact Lev.up_col k v this
  | none =>
    obtain ⟨v, h1, hb⟩ := h
    rw [List.find?_eq_none] at hh
    exact absurd hb (hh v (by rw [List.mem_reverse]; exact List.mem_of_mem_head? h1))
theorem opens_up (h : Base st) (hn : MTok φ k nx nx') (mo : Bool) : opens nx' mo (st.map (Lev.up k)) = opens nx mo st := by
  unfold opens
  rw [lastF_up h, hn.col]
  congr 1
  by_cases hh : nx.col > (lastF st).col
  · rw [decide_eq_true hh, decide_eq_true (by omega)]
  · rw [decide_eq_false hh, decide_eq_false (by omega)]
theorem oneC_up (h : Base st) (ht : MTok φ k t t') (hn : MTok φ k nx nx') (mo : Bool) (ho : MToks φ k out out') :
    (oneC t' nx' mo (st.map (Lev.up k)) out').1.1 = (oneC t nx mo st out).1.1.map (Lev.up k) ∧ MToks φ k (oneC t nx mo st out).1.2 (oneC t' nx' mo (st.map (Lev.up k)) out').1.2 ∧ (oneC t' nx' mo (st.map (Lev.up k)) out').2 = (oneC t nx mo st out).2 := by
  unfold oneC
  rw [opening_up ht, withs_up ht, opens_up h hn mo]
  split
  · refine ⟨?_, ho.snoc ht, rfl⟩
    simp only
    rw [List.map_append, List.map_singleton, ht.text]
    rfl
  · split
    · split
      · refine ⟨?_, (ho.snoc ht).snoc (hn.mark 5), rfl⟩
        simp only
        rw [List.map_append, List.map_singleton, hn.col]
        rfl
      · exact ⟨rfl, ((ho.snoc ht).snoc (hn.mark 5)).snoc (hn.mark 7), rfl⟩
    · exact ⟨rfl, ho.snoc ht, rfl⟩
theorem oneF_up (h : Base st) (ht : MTok φ k t t') (hn : MTok φ k nx nx') (bg mo : Bool) (ho : MToks φ k out out') :
    (oneF t' nx' bg mo (st.map (Lev.up k)) out').1.1 = (oneF t nx bg mo st out).1.1.map (Lev.up k) ∧ MToks φ k (oneF t nx bg mo st out).1.2 (oneF t' nx' bg mo (st.map (Lev.up k)) out').1.2 ∧ (oneF t' nx' bg mo (st.map (Lev.up k)) out').2 = (oneF t nx bg mo st out).2 ∧ ((oneF t nx bg mo st out).2.2 = 0 → Base (oneF t nx bg mo st out).1.1) := by
  cases ha : badA t bg st out with
  | true =>
    rw [oneF_badA ha, oneF_badA (by rw [badA_up ht bg ho]; exact ha)]
    exact ⟨rfl, ho, rfl, fun hh => by simp at hh⟩
  | false =>
    rw [oneF_okA ha, oneF_okA (by rw [badA_up ht bg ho]; exact ha)]
    obtain ⟨a1, a2⟩ := oneA_up (st := st) ht bg ho
    have hBA := h.oneA ha
    generalize oneA t bg st out = A at a1 a2 hBA ⊢
    generalize oneA t' bg (st.map (Lev.up k)) out' = A' at a1 a2 ⊢
    obtain ⟨s1, o1⟩ := A
    obtain ⟨s1', o1'⟩ := A'
    simp only at a1 a2 hBA ⊢
    subst a1
    unfold oneF2
    rw [badB_up ht a2]
    cases hb : badB t s1 o1 with
    | true =>
      rw [if_pos rfl, if_pos rfl]
      exact ⟨rfl, a2, rfl, fun hh => by simp at hh⟩
    | false =>
      rw [if_neg (by decide), if_neg (by decide), oneF3_fin, oneF3_fin]
      obtain ⟨b1, b2⟩ := oneB_up (st := s1) ht a2
      have hBB := hBA.oneB hb
      generalize oneB t s1 o1 = B at b1 b2 hBB ⊢
      generalize oneB t' (s1.map (Lev.up k)) o1' = B' at b1 b2 ⊢
      obtain ⟨s2, o2⟩ := B
      obtain ⟨s2', o2'⟩ := B'
      simp only at b1 b2 hBB ⊢
      subst b1
      obtain ⟨c1, c2, c3⟩ := oneC_up hBB ht hn mo b2
      have hBC := hBB.oneC t nx mo o2
      generalize oneC t nx mo s2 o2 = C at c1 c2 c3 hBC ⊢
      generalize oneC t' nx' mo (s2.map (Lev.up k)) o2' = C' at c1 c2 c3 ⊢
      have hlen : C'.1.1.length = C.1.1.length := by rw [c1, List.length_map]
      unfold oneFin
      rw [hlen]
      split
      · exact ⟨c1, c2, rfl, fun hh => by simp at hh⟩
      · exact ⟨c1, c2, by rw [c3], fun _ => hBC⟩
end

theorem MToks.get {φ : Int → Int} {k : Int} {l l' : List Tok} (h : MToks φ k l l') : ∀ (i : Nat) (t : Tok), l[i]? = some t → ∃ t', l'[i]? = some t' ∧ MTok φ k t t' := by
  induction h with
  | nil => intro i t h; simp at h
  | @cons t t' l l' h1 _ ih =>
    intro i u hu
    cases i with
    | zero => simp at hu; subst hu; exact ⟨t', by simp, h1⟩
    | succ i => simp at hu; obtain ⟨v, hv, hm⟩ := ih i u hu; exact ⟨v, by simpa using hv, hm⟩
theorem MToks.endT {φ : Int → Int} {k : Int} {l l' : List Tok} (h : MToks φ k l l') (hne : l ≠ []) : MTok φ k (endT l) (endT l') := by
  have hl : 0 < l.length := List.length_pos_iff.2 hne
  have hlast : l.getLast? = some (l.getLast hne) := List.getLast?_eq_some_getLast hne
  obtain ⟨t', ht, hm⟩ := h.get (l.length - 1) (l.getLast hne) (by rw [← List.getLast?_eq_getElem?, hlast])
  have hlast' : l'.getLast? = some t' := by rw [List.getLast?_eq_getElem?, h.len, ht]
  unfold Lx.endT
  rw [hlast, hlast']
  refine ⟨hm.kind, hm.num, hm.text, hm.line, ?_⟩
  simp only
  rw [hm.col, hm.text]
  omega

theorem layG_up {φ : Int → Int} {k : Int} {l l' : List Tok} (h : MToks φ k l l') (hne : l ≠ []) (hmo : Mono φ) (hl : ∀ t ∈ l, 0 ≤ t.line) : ∀ (f i : Nat) (op : Bool) (st : List Lev) (out out' : List Tok), Base st → MToks φ k out out' →
    (layG l' f i op (st.map (Lev.up k)) out').1.1 = (layG l f i op st out).1.1.map (Lev.up k) ∧ MToks φ k (layG l f i op st out).1.2 (layG l' f i op (st.map (Lev.up k)) out').1.2 ∧ (layG l' f i op (st.map (Lev.up k)) out').2 = (layG l f i op st out).2 := by
  intro f
  induction f with
  | zero => intro i op st out out' _ ho; exact ⟨rfl, ho, rfl⟩
  | succ f ih =>
    intro i op st out out' hB ho
    by_cases hi : i < l.length
    · have ht := List.getElem?_eq_getElem hi
      obtain ⟨t', ht', hm⟩ := h.get i _ ht
      have htl := hl l[i] (List.getElem_mem hi)
      generalize l[i] = t at ht hm htl
      have hd : decide (i + 1 < l'.length) = decide (i + 1 < l.length) := by rw [h.len]
      have hnx : MTok φ k (nxT l i) (nxT l' i) := by
        unfold nxT
        rw [h.len]
        split
        · rename_i hn
          obtain ⟨u, hu, hmu⟩ := h.get (i + 1) _ (List.getElem?_eq_getElem hn)
          rw [hu, List.getElem?_eq_getElem hn]
          exact hmu
        · exact h.endT hne
      have hbg : bgT l' i op t' = bgT l i op t := by
        unfold bgT
        congr 1
        cases i with
        | zero => rfl
        | succ i =>
          have hi2 : i < l.length := by omega
          obtain ⟨u, hu, hmu⟩ := h.get i _ (List.getElem?_eq_getElem hi2)
          have hul := hl l[i] (List.getElem_mem hi2)
          rw [show i + 1 - 1 = i by omega, hu, List.getElem?_eq_getElem hi2]
          simp only [Option.getD_some]
          congr 1
          refine decide_eq_decide.2 ?_
          rw [hm.line, hmu.line]
          constructor
          · intro h3
            have h6 : l[i].line ≤ t.line := by
              by_cases h5 : l[i].line ≤ t.line
              · exact h5
              · have := hmo.up _ _ htl (show t.line < l[i].line by omega)
                omega
            rcases Int.lt_or_eq_of_le h6 with h4 | h4
            · exact h4
            · rw [h4] at h3
              exact absurd h3 (Int.lt_irrefl _)
          · exact fun h3 => hmo.up _ _ hul h3
      rw [layG_step ht, layG_step ht', hd, hbg]
      obtain ⟨o1, o2, o3, o4⟩ := oneF_up hB hm hnx (bgT l i op t) (decide (i + 1 < l.length)) ho
      rw [o3]
      split
      · rename_i h0
        rw [o1]
        exact ih _ _ _ _ _ (o4 h0) o2
      · exact ⟨o1, o2, rfl⟩
    · rw [layG_end hi, layG_end (by rw [h.len]; exact hi)]
      exact ⟨rfl, ho, rfl⟩

/-- A token without its place. -/
def Tok.bare (t : Tok) : Int × Int × ByteArray := (t.kind, t.num, t.text)
theorem MToks.bares {φ : Int → Int} {k : Int} {l l' : List Tok} (h : MToks φ k l l') : l'.map Tok.bare = l.map Tok.bare := by
  induction h with
  | nil => rfl
  | cons h1 _ ih => rw [List.map_cons, List.map_cons, ih]; unfold Tok.bare; rw [h1.kind, h1.num, h1.text]

theorem layF_up {φ : Int → Int} {k : Int} {l l' : List Tok} (h : MToks φ k l l') (hmo : Mono φ) (hl : ∀ t ∈ l, 0 ≤ t.line) : (layF l').1.map Tok.bare = (layF l).1.map Tok.bare ∧ (layF l').2 = (layF l).2 := by
  cases l with
  | nil =>
    cases h
    exact ⟨rfl, rfl⟩
  | cons t l2 =>
    have hne : t :: l2 ≠ [] := by simp
    obtain ⟨t', ht', hm⟩ := h.get 0 t rfl
    have hB : Base [⟨true, t.col, ⟨#[]⟩⟩] := ⟨_, rfl, rfl⟩
    obtain ⟨g1, g2, g3⟩ := layG_up h hne hmo hl ((t :: l2).length + 1) 0 true [⟨true, t.col, ⟨#[]⟩⟩] [markF 5 t] [markF 5 t'] hB (.cons (hm.mark 5) .nil)
    have e : [(⟨true, t.col, ⟨#[]⟩⟩ : Lev)].map (Lev.up k) = [⟨true, t'.col, ⟨#[]⟩⟩] := by
      rw [hm.col]
      rfl
    rw [e] at g1 g2 g3
    rw [layF_fin, layF_fin, h.len, ht']
    simp only [List.getElem?_cons_zero, Option.getD_some]
    generalize layG (t :: l2) ((t :: l2).length + 1) 0 true [⟨true, t.col, ⟨#[]⟩⟩] [markF 5 t] = R at g1 g2 g3 ⊢
    generalize layG l' ((t :: l2).length + 1) 0 true [⟨true, t'.col, ⟨#[]⟩⟩] [markF 5 t'] = R' at g1 g2 g3 ⊢
    unfold finL
    rw [g3]
    split
    · obtain ⟨s1, s2⟩ := shutF_up (p := anyL) (p' := anyL) (fun v _ => rfl) (h.endT hne) _ R.1.1 R.1.2 R'.1.2 rfl g2
      rw [g1, s1, List.isEmpty_map, h.len]
      split
      · exact ⟨s2.bares, rfl⟩
      · exact ⟨rfl, rfl⟩
    · exact ⟨rfl, rfl⟩

/-- The law of LexMoves, in plain words. -/
theorem moves_law {k : Nat} {xs ys : List (List UInt8)} {s s' : ByteArray} (h : Moved k xs ys) (hx : ∀ x ∈ xs, NoNl x) (hs : s.data.toList = joinN xs) (hs' : s'.data.toList = joinN ys) (hz : s'.size ≤ 65536) (h0 : (rawF s).2.2 = 0) :
    (tokF s').1.map Tok.bare = (tokF s).1.map Tok.bare ∧ (tokF s').2.2 = (tokF s).2.2 := by
  have es : s = bytes (joinN xs) := ByteArray.ext (Array.toList_inj.1 (by rw [hs]; simp [bytes]))
  have es' : s' = bytes (joinN ys) := ByteArray.ext (Array.toList_inj.1 (by rw [hs']; simp [bytes]))
  obtain ⟨hsz, hr⟩ := rawTo_all h0
  have hlen := (rawOk_all s).2
  have hr2 := hr
  rw [es] at hr2
  obtain ⟨l', φ, h1, h2, h3⟩ := rawTo_moved h hx _ hr2
  rw [← es] at h2
  rw [← es'] at h1
  have hf : rawF s' = (l', 0, 0) := rawTo_fin h1 hz (by rw [h2.len]; exact hlen)
  have hli : ∀ t ∈ (rawF s).1, 0 ≤ t.line := fun t ht => by
    obtain ⟨p0, p1, p2, _⟩ := hr.place (by omega) t ht
    rw [p2]
    exact (posOf_le s t.at_).1
  obtain ⟨g1, g2⟩ := layF_up h2 h3 hli
  unfold tokF
  rw [hf, h0]
  simp only
  rw [g2]
  split
  · rename_i hh; exact absurd rfl hh
  · split
    · exact ⟨g1, rfl⟩
    · rw [h2.len]
      split
      · exact ⟨rfl, rfl⟩
      · exact ⟨rfl, rfl⟩

end Go.Proofs.YtfnhjdehlikbaaaGreatDoor.Lx

/- bares (28): tokens without their places; equal rows of such (27). -/
namespace Go.Proofs.YtfnhjdehlikbaaaGreatDoor.Lx
open Go.RowKit Go.Proofs.YtfnhjdehlikbaaaGreatDoorW.PrintWords

theorem info49 : (Tryz.prog.info? 49).map (fun i => (i.zero, i.size, i.bytes)) = some (some (.agg #[.int .i64 0, .int .i64 0, .string ⟨#[]⟩]), 3, 32) := by kernel_rfl
def bareL (b : Int × Int × ByteArray) : List Value := [.int .i64 b.1, .int .i64 b.2.1, .string b.2.2]
def flatB (l : List (Int × Int × ByteArray)) : List Value := l.flatMap bareL
theorem flatB_snoc (l : List (Int × Int × ByteArray)) (b : Int × Int × ByteArray) : flatB (l ++ [b]) = flatB l ++ bareL b := by simp [flatB]
def tokBare (t : Tok) : Int × Int × ByteArray := (t.kind, t.num, t.text)
theorem flatB_at : ∀ (st : List (Int × Int × ByteArray)) (i j : Nat) (v : Int × Int × ByteArray), st[i]? = some v → j < 3 → (flatB st)[i * 3 + j]? = (bareL v)[j]? := by
  intro st
  induction st with
  | nil => intro i j v h; simp at h
  | cons a st ih =>
    intro i j v h hj
    have e : flatB (a :: st) = bareL a ++ flatB st := by simp [flatB]
    rw [e]
    have ha : (bareL a).length = 3 := rfl
    cases i with
    | zero =>
      simp at h
      subst h
      rw [Nat.zero_mul, Nat.zero_add, List.getElem?_append_left (by omega)]
    | succ i =>
      simp at h
      rw [List.getElem?_append_right (by omega), ← ih i j v h hj]
      congr 1
      omega

/-- Tokens without places that can be read. -/
def SrcB (A : Option Addr) (l : List (Int × Int × ByteArray)) (W : World) : Prop := ∀ (i : Nat) b, l[i]? = some b → ∃ g, A = some ⟨g, 0, none⟩ ∧
    W.cell? ⟨g, i * 3, none⟩ = some (.int .i64 b.1) ∧ W.cell? ⟨g, i * 3 + 1, none⟩ = some (.int .i64 b.2.1) ∧ W.cell? ⟨g, i * 3 + 2, none⟩ = some (.string b.2.2)
theorem SrcB.below {A : Option Addr} {l : List (Int × Int × ByteArray)} {W W' : World} (h : SrcB A l W) (hb : Below W.heap.size W W') : SrcB A l W' := by
  intro i t ht
  obtain ⟨g, hA, h0, h1, h2⟩ := h i t ht
  have e : ∀ o v, W.cell? ⟨g, o, none⟩ = some v → W'.cell? ⟨g, o, none⟩ = some v := fun o v hv => (hb.cell (p := ⟨g, o, none⟩) (World.block_lt_of_cell? _ _ hv)).trans hv
  exact ⟨g, hA, e _ _ h0, e _ _ h1, e _ _ h2⟩
theorem srcB_of_own {W : World} {B : Nat} {v : Value} {out : List (Int × Int × ByteArray)} (h : W.ownsRow B 49 3 v out.length (flatB out)) : ∃ O c, v = .slice O out.length c ∧ out.length ≤ c ∧ SrcB O out W := by
  rcases h.2 with ⟨h1, h2⟩ | ⟨g, cap, cur, h1, _, _, hc, _⟩
  · refine ⟨none, 0, by rw [h2]; exact h1, by omega, fun i t hi => ?_⟩
    rw [List.eq_nil_of_length_eq_zero h2] at hi
    simp at hi
  · refine ⟨some ⟨g, 0, none⟩, cap, h1, hc, fun i t hi => ⟨g, rfl, ?_⟩⟩
    subst h1
    have hcs := h.cells rfl
    have e : ∀ k, (⟨g, 0, none⟩ : Addr).add k = ⟨g, k, none⟩ := fun k => by unfold Addr.add; split <;> simp_all
    have r : ∀ j u, j < 3 → (bareL t)[j]? = some u → W.cell? ⟨g, i * 3 + j, none⟩ = some u := fun j u hj hu => by
      rw [← e]
      exact hcs _ _ ((flatB_at out i j t hi hj).trans hu)
    exact ⟨r 0 _ (by omega) rfl, r 1 _ (by omega) rfl, r 2 _ (by omega) rfl⟩

structure BaresAt (w : World) (l : List (Int × Int × ByteArray)) (v : Value) (W : World) : Prop where
  own : W.ownsRow w.heap.size 49 3 v l.length (flatB l)
  below : Below w.heap.size w W

set_option maxRecDepth 100000 in
set_option maxHeartbeats 8000000 in
theorem bares_any (l : List Tok) (A : Option Addr) (c : Nat) (w : World) (hl : l.length ≤ 100000) (hT : SrcC A l w) :
    Calls Tryz.prog 28 #[.slice A l.length c] w fun e w' => ∃ O c, e = .returned (.slice O l.length c) ∧ l.length ≤ c ∧ SrcB O (l.map tokBare) w' ∧ Below w.heap.size w w' := by
  obtain ⟨i0, hi, hz0, hz1, hz2⟩ := info_parts info49
  have HI := Aside0.mk hi; clear hi
  have HZ0 := Aside0.mk hz0; clear hz0
  have HZ1 := Aside0.mk hz1; clear hz1
  have HZ2 := Aside0.mk hz2; clear hz2
  have HSR := Aside0.mk hT; clear hT
  obtain ⟨n, hn⟩ : ∃ n, l.length = n := ⟨_, rfl⟩
  rw [hn] at hl ⊢
  have HN := Aside0.mk hn; clear hn
  have hn0 : (0 : Int) ≤ (n : Int) := by omega
  go_enter Tryz.func28, Tryz.ntmps28
  go_wp2
  go_loopg [8, 3] n (fun f t8 t3 wr => ∃ (i : Nat) (A' : Option Addr) (c' : Nat), t8 = .int .i64 (i : Int) ∧ t3 = .slice A' i c' ∧ i + f = n ∧ Aside0 (BaresAt w ((l.take i).map tokBare) (.slice A' i c') wr))
  case atStart => exact ⟨0, none, 0, rfl, rfl, by omega, ⟨World.ownsRow_nil _ _ _ _, Below.refl _ _⟩⟩
  case round =>
    obtain ⟨i, A', c', rfl, rfl, hif, hA⟩ := hrel
    by_cases hi : i < n
    · cases gk with
      | zero => omega
      | succ f =>
        have hlt : i < l.length := by rw [HN.out]; exact hi
        have hti := List.getElem?_eq_getElem hlt
        obtain ⟨g, hAg, q0, q1, q2, q3, q4, q5⟩ := (HSR.out.below hA.out.below) i _ hti
        have hxs : (l.take (i + 1)).map tokBare = (l.take i).map tokBare ++ [tokBare l[i]] := by rw [List.take_succ_eq_append_getElem hlt, List.map_append]; rfl
        have hli : ((l.take i).map tokBare).length = i := by rw [List.length_map, List.length_take, Nat.min_eq_left (by omega)]
        generalize l[i] = t at q0 q1 q2 q3 q4 q5 hxs
        have HXS := Aside0.mk hxs
        have HLI := Aside0.mk hli
        have hown := hA.out.own
        rw [hli] at hown
        have HOW := Aside0.mk hown
        have HBE := Aside0.mk hA.out.below
        have hsz := hA.out.below.size
        subst hAg
        obtain ⟨tk, tn, tx, ta, tl, tc⟩ := t
        simp only at q0 q1 q2 q3 q4 q5
        clear hti hlt hxs hli hown hA
        go_wp2_with (at_builtin; refine wpList_append_own_at _ rfl _ _ 47 rfl w.heap.size 49 i0 _ 3 32 Tryz.underlying47 HI.out HZ0.out HZ1.out HZ2.out rfl (by decide) (.slice A' i c') i (flatB ((l.take i).map tokBare)) rfl ((HOW.out.alloc _).alloc _) ⟨wr.heap.size + 1, 0, none⟩ 1 1 [.int .i64 tk, .int .i64 tn, .string tx] rfl rfl (by intro j u h; have := cells_new (wr.alloc (.cells #[.int .i64 tk, .int .i64 tn, .string tx, .int .i64 ta, .int .i64 tl, .int .i64 tc] 54)) #[.int .i64 tk, .int .i64 tn, .string tx] 49 j u h; rwa [show (wr.alloc (.cells #[.int .i64 tk, .int .i64 tn, .string tx, .int .i64 ta, .int .i64 tl, .int .i64 tc] 54)).heap.size = wr.heap.size + 1 by simp] at this) (by simp [Value.oneCell']) (by unfold maxLen; omega) (by omega) (by simp; omega) ?_; intro v' w3 hown' hgrow _ hat; obtain ⟨g', cap', rfl⟩ := ownsRow_succ hown'; have HO := Aside0.mk hown'; have HG := Aside0.mk hgrow; clear hown' hgrow hat)
        go_roundg f
        case measure => omega
        case rel =>
          refine ⟨i + 1, _, _, by go_num, rfl, by omega, ⟨?_, ?_⟩⟩
          · rw [HXS.out, flatB_snoc, List.length_append, HLI.out]
            exact HO.out
          · exact ((HBE.out.alloc hsz _).alloc (by simp; omega) _).grown HG.out (by simp; omega) (fun k hk => own_base HOW.out k hk)
    · obtain rfl : i = n := by omega
      have htk : l.take i = l := List.take_of_length_le (by rw [HN.out]; exact Nat.le_refl _)
      have hA2 := hA.out
      rw [htk] at hA2
      have HA2 := Aside0.mk hA2
      clear hA htk hA2
      go_wp2
      go_ret
      obtain ⟨O, c, hv, hc, hs⟩ := srcB_of_own HA2.out.own
      rw [List.length_map, HN.out] at hv hc
      injection hv with e1 e2 e3
      subst e1 e3
      exact ⟨_, _, rfl, hc, hs, HA2.out.below⟩

set_option maxRecDepth 100000 in
set_option maxHeartbeats 8000000 in
theorem equalB_any (l : List (Int × Int × ByteArray)) (hl : l.length ≤ 1000000) (A0 A1 : Option Addr) (c0 c1 : Nat) (w : World) (h0 : SrcB A0 l w) (hc0 : l.length ≤ c0) (h1 : SrcB A1 l w) (hc1 : l.length ≤ c1) :
    Calls Tryz.prog 27 #[.slice A0 l.length c0, .slice A1 l.length c1] w fun e w' => e = .returned (.bool true) ∧ Below w.heap.size w w' := by
  have HS0 := Aside0.mk h0
  have HS1 := Aside0.mk h1
  clear h0 h1
  obtain ⟨n, hn⟩ : ∃ n, l.length = n := ⟨_, rfl⟩
  rw [hn] at hl hc0 hc1 ⊢
  have HN := Aside0.mk hn; clear hn
  have c3b0 : ((n : Int) == (n : Int)) = true := beq_self_eq_true _
  have c3b1 : ((n : Int) != (n : Int)) = false := bne_self_eq_false _
  go_enter Tryz.func27, Tryz.ntmps27
  go_wp2
  repeat (go_quiet (fail); try go_wp2)
  go_loopg [13] n (fun f t13 wr => ∃ (i : Nat), t13 = .int .i64 (i : Int) ∧ i + f = n ∧ Aside0 (Below w.heap.size w wr))
  case atStart => exact ⟨0, rfl, by omega, ⟨Below.refl _ _⟩⟩
  case round =>
    obtain ⟨i, rfl, hif, hB⟩ := hrel
    have HB := Aside0.mk hB.out
    clear hB
    by_cases hi : i < n
    · cases gk with
      | zero => omega
      | succ f =>
        have hlt : i < l.length := by rw [HN.out]; exact hi
        have hti := List.getElem?_eq_getElem hlt
        obtain ⟨g0, e0, x0, x1, x2⟩ := (HS0.out.below HB.out) i _ hti
        obtain ⟨g1, e1, y0, y1, y2⟩ := (HS1.out.below HB.out) i _ hti
        subst e0 e1
        generalize l[i] = t at x0 x1 x2 y0 y1 y2
        obtain ⟨tk, tn, tx⟩ := t
        simp only at x0 x1 x2 y0 y1 y2
        have hi2 : (i : Int) < (n : Int) := by omega
        clear hti hlt
        go_wp2
        repeat (go_quiet (fail); try go_wp2)
        go_roundg f
        case measure => omega
        case rel => exact ⟨i + 1, by go_num, by omega, by first | exact HB | exact ⟨HB.out.trans ((bdrewN _ _).mono HB.out.size)⟩⟩
    · obtain rfl : i = n := by omega
      go_wp2
      repeat (go_quiet (fail); try go_wp2)
      go_ret
      exact ⟨rfl, HB.out⟩

end Go.Proofs.YtfnhjdehlikbaaaGreatDoor.Lx

