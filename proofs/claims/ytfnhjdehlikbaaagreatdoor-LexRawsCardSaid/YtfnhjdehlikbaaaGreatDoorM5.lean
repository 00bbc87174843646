import Derived.Test.YtfnhjdehlikbaaaGreatDoorM1
import Derived.Test.YtfnhjdehlikbaaaGreatDoorPLexTokensx6
import Derived.Test.YtfnhjdehlikbaaaGreatDoorPLexTokensx1
set_option linter.unusedVariables false
set_option linter.unusedSimpArgs false
/- What the reference's printed functions compute: past, Keyword, worded. -/
namespace Go.Proofs.YtfnhjdehlikbaaaGreatDoor.Lx
open Go.RowKit Go.Proofs.YtfnhjdehlikbaaaGreatDoorW.PrintWords Go.Proofs.YtfnhjdehlikbaaaGreatDoor.PLexTokens

/-- From some number on it answers so. -/
def Ev {α : Type} (f : Nat → Option α) (r : α) : Prop := ∃ k0, ∀ k, k0 ≤ k → f k = some r
theorem Ev.of {α : Type} {f : Nat → Option α} {r : α} (n : Nat) (h : ∀ k, f (k + n) = some r) : Ev f r :=
  ⟨n, fun k hk => by obtain ⟨j, rfl⟩ : ∃ j, k = j + n := ⟨k - n, by omega⟩; exact h j⟩
theorem Ev.step {α : Type} {f g : Nat → Option α} {r : α} (hg : Ev g r) (n : Nat) (h : ∀ k, f (k + n) = g k) : Ev f r := by
  obtain ⟨k0, h0⟩ := hg
  exact ⟨k0 + n, fun k hk => by obtain ⟨j, rfl⟩ : ∃ j, k = j + n := ⟨k - n, by omega⟩; rw [h j]; exact h0 j (by omega)⟩
theorem Ev.bind {α β : Type} {f : Nat → Option α} {g : Nat → α → Option β} {a : α} {r : β} (hf : Ev f a) (hg : Ev (fun k => g k a) r) : Ev (fun k => (f k).bind (g k)) r := by
  obtain ⟨k0, h0⟩ := hf
  obtain ⟨k1, h1⟩ := hg
  exact ⟨k0 + k1, fun k hk => by simp only [h0 k (by omega), Option.bind_some]; exact h1 k (by omega)⟩
theorem Ev.shift {α : Type} {f : Nat → Option α} {r : α} (hf : Ev f r) (n : Nat) : Ev (fun k => f (k + n)) r := by
  obtain ⟨k0, h0⟩ := hf
  exact ⟨k0, fun k hk => h0 _ (by omega)⟩

theorem w64 {x : Int} (h0 : -4611686018427387904 ≤ x) (h1 : x ≤ 4611686018427387904) : wrap64 x = x := by unfold wrap64; omega

theorem run_cons (p : Int → Bool) (s : ByteArray) (i : Nat) (h : i < s.size) : run p s i = if p (bt s i) = true then run p s (i + 1) + 1 else 0 := by
  unfold run
  rw [drop_cons s i h, List.takeWhile_cons]
  have e : bt s i = ((s[i]'h).toNat : Int) := (bt_at s i h).symm
  rw [e]
  split <;> simp
theorem run_end (p : Int → Bool) (s : ByteArray) (i : Nat) (h : s.size ≤ i) : run p s i = 0 := by
  unfold run
  rw [List.drop_eq_nil_of_le (by rw [len_data]; exact h)]
  rfl

theorem past_l1 (s : ByteArray) (hs : s.size ≤ 140737488351232) : ∀ (n a : Nat), a ≤ s.size → run (fun c => c != 10) s a = n → ∀ k, hoarstoneref08_past.l1 (k + n + 1) s a = hoarstoneref08_past.l0 k s (a + n : Nat) := by
  intro n
  induction n with
  | zero =>
    intro a ha hr k
    simp only [Nat.add_zero]
    rw [hoarstoneref08_past.l1]
    by_cases hlt : a < s.size
    · rw [if_pos (by omega), if_pos (by omega)]
      rw [run_cons _ _ _ hlt] at hr
      split at hr
      · omega
      · rename_i hc
        rw [if_pos (by simpa using hc)]
    · rw [if_neg (by omega)]
  | succ n ih =>
    intro a ha hr k
    have hlt : a < s.size := by
      rcases Nat.lt_or_ge a s.size with h | h
      · exact h
      · rw [run_end _ _ _ h] at hr; omega
    rw [run_cons _ _ _ hlt] at hr
    split at hr
    · rename_i hc
      rw [show k + (n + 1) + 1 = (k + n + 1) + 1 by omega, hoarstoneref08_past.l1, if_pos (by omega), if_pos (by omega), if_neg (by simpa using hc), w64 (by omega) (by omega)]
      have := ih (a + 1) (by omega) (by omega) k
      rw [show ((a : Int) + 1) = ((a + 1 : Nat) : Int) by omega, this, show a + 1 + n = a + (n + 1) by omega]
    · omega

theorem past_lay (s : ByteArray) (hs : s.size ≤ 140737488351232) : ∀ (f : Nat) (a : Int), 0 ≤ a → a ≤ s.size → (s.size : Int) - a < f → Ev (fun k => hoarstoneref08_past.l0 k s a) (layL s f a) := by
  intro f
  induction f with
  | zero => intro a h0 h1 h2; omega
  | succ f ih =>
    intro a h0 h1 h2
    simp only [layL]
    by_cases hlt : a < s.size
    · rw [if_pos hlt]
      by_cases hb : bt s a = 32 ∨ bt s a = 10
      · rw [if_pos hb]
        refine (ih (a + 1) (by omega) (by omega) (by omega)).step 2 (fun k => ?_)
        rw [hoarstoneref08_past.l0, if_pos hlt, if_pos h0]
        by_cases h32 : bt s a = 32
        · rw [if_pos h32, hoarstoneref08_past.j1, if_pos rfl, w64 (by omega) (by omega)]
        · rw [if_neg h32, hoarstoneref08_past.j1, if_pos (by simp; omega), w64 (by omega) (by omega)]
      · rw [if_neg hb]
        have h32 : ¬ bt s a = 32 := fun h => hb (.inl h)
        have h10 : ¬ bt s a = 10 := fun h => hb (.inr h)
        have hj : ∀ k, hoarstoneref08_past.l0 (k + 2 + 1) s a = hoarstoneref08_past.j2 (k + 1) s a (dash s a) := fun k => by
          rw [hoarstoneref08_past.l0, if_pos hlt, if_pos h0, if_neg h32, hoarstoneref08_past.j1, if_neg (by simpa using h10), if_pos h0, if_pos hlt]
          unfold dash
          by_cases h45 : bt s a = 45
          · rw [if_pos h45, w64 (by omega) (by omega)]
            by_cases hn : a + 1 < s.size
            · rw [if_pos hn, if_pos (by omega)]
              have e : (decide (a + 1 < (s.size : Int)) && (bt s a == 45 && bt s (a + 1) == 45)) = (bt s (a + 1) == 45) := by
                rw [decide_eq_true hn, h45]; rfl
              rw [e]
            · rw [if_neg hn]
              have e : (decide (a + 1 < (s.size : Int)) && (bt s a == 45 && bt s (a + 1) == 45)) = false := by
                rw [decide_eq_false hn]; rfl
              rw [e]
          · rw [if_neg h45]
            have e : (decide (a + 1 < (s.size : Int)) && (bt s a == 45 && bt s (a + 1) == 45)) = false := by
              have : (bt s a == 45) = false := by simpa using h45
              rw [this]; simp
            rw [e]
        by_cases hd : dash s a = true
        · rw [if_pos hd]
          have hr := run_le (fun c => c != 10) s a.toNat (by omega)
          have hr1 := dash_run s a h0 hd
          refine (ih (a + (run (fun c => c != 10) s a.toNat : Nat)) (by omega) (by omega) (by omega)).step (run (fun c => c != 10) s a.toNat + 1 + 3) (fun k => ?_)
          rw [show k + (run (fun c => c != 10) s a.toNat + 1 + 3) = (k + run (fun c => c != 10) s a.toNat + 1) + 2 + 1 by omega, hj, hd, hoarstoneref08_past.j2, if_pos rfl]
          have := past_l1 s hs _ a.toNat (by omega) rfl k
          rw [show ((a.toNat : Nat) : Int) = a by omega] at this
          rw [this]
          congr 1
          omega
        · rw [if_neg hd]
          refine Ev.of 3 (fun k => ?_)
          rw [show k + 3 = k + 2 + 1 by omega, hj, show dash s a = false by simpa using hd, hoarstoneref08_past.j2, if_neg (by simp)]
    · rw [if_neg hlt]
      refine Ev.of 1 (fun k => ?_)
      rw [hoarstoneref08_past.l0, if_neg hlt]

theorem past_f (s : ByteArray) (hs : s.size ≤ 140737488351232) (a : Int) (h0 : 0 ≤ a) (h1 : a ≤ s.size) : Ev (fun k => hoarstoneref08_past.f k s a) (lay s a) :=
  past_lay s hs _ a h0 h1 (by omega)

theorem letter_f (c : Int) : hoarstoneref08_letter.f c = some (isLetter c) := by
  unfold hoarstoneref08_letter.f isLetter
  by_cases h : 97 ≤ c <;> simp [h]
theorem digit_f (c : Int) : hoarstoneref08_digit.f c = some (isDigit c) := by
  unfold hoarstoneref08_digit.f isDigit
  by_cases h : 48 ≤ c <;> simp [h]

theorem has_l0 (l : List ByteArray) (s : ByteArray) (hl : l.length ≤ 1000) : ∀ (n i : Nat), i + n = l.length → Ev (fun k => hoarstoneref08_has.l0 k l s i) ((l.drop i).any (fun x => s.toList == x.toList)) := by
  intro n
  induction n with
  | zero =>
    intro i hi
    refine Ev.of 1 (fun k => ?_)
    rw [hoarstoneref08_has.l0, if_neg (by omega), List.drop_eq_nil_of_le (by omega)]
    rfl
  | succ n ih =>
    intro i hi
    have hlt : i < l.length := by omega
    rw [List.drop_eq_getElem_cons hlt, List.any_cons]
    have hrd : rdOf ByteArray.empty l (i : Int) = l[i] := by simp [rdOf, hlt]
    by_cases he : s.toList = l[i].toList
    · refine Ev.of 1 (fun k => ?_)
      rw [hoarstoneref08_has.l0, if_pos (by omega), if_pos (by omega), hrd, if_pos he.symm]
      simp [he]
    · have : (s.toList == l[i].toList) = false := by simpa using he
      rw [this, Bool.false_or]
      refine (ih (i + 1) (by omega)).step 1 (fun k => ?_)
      rw [hoarstoneref08_has.l0, if_pos (by omega), if_pos (by omega), hrd, if_neg (fun h => he h.symm), w64 (by omega) (by omega)]
      rfl

theorem beq_toList (a b : ByteArray) : (a.toList == b.toList) = (a == b) := by
  cases a with
  | mk ad =>
    cases b with
    | mk bd =>
      have e : ((⟨ad⟩ : ByteArray) == ⟨bd⟩) = (ad == bd) := rfl
      rw [e, ByteArray.toList_eq, ByteArray.toList_eq, Bool.eq_iff_iff, beq_iff_eq, beq_iff_eq]
      exact Array.toList_inj

theorem Keyword_f (s : ByteArray) : Ev (fun k => hoarstoneref08_Keyword.f k s) (isKw s) := by
  unfold hoarstoneref08_Keyword.f
  have h := has_l0 kws s (by decide) 11 0 rfl
  rw [List.drop_zero] at h
  have e : kws.any (fun x => s.toList == x.toList) = isKw s := by
    unfold isKw
    congr 1
    funext x
    exact beq_toList s x
  rw [e] at h
  simp only [show hoarstoneref08_keywords.f = some kws from rfl, Option.bind_some]
  refine Ev.bind h (Ev.of 0 (fun k => rfl))

end Go.Proofs.YtfnhjdehlikbaaaGreatDoor.Lx

/- What the reference's printed functions compute: worded, numbered. -/
namespace Go.Proofs.YtfnhjdehlikbaaaGreatDoor.Lx
open Go.RowKit Go.Proofs.YtfnhjdehlikbaaaGreatDoorW.PrintWords Go.Proofs.YtfnhjdehlikbaaaGreatDoor.PLexTokens

theorem run_after (p : Int → Bool) (s : ByteArray) : ∀ (k e : Nat), run p s e = k → run p s (e + k) = 0 := by
  intro k
  induction k with
  | zero => intro e h; exact h
  | succ k ih =>
    intro e h
    have hlt : e < s.size := by
      rcases Nat.lt_or_ge e s.size with h1 | h1
      · exact h1
      · rw [run_end _ _ _ h1] at h; omega
    rw [run_cons _ _ _ hlt] at h
    split at h
    · have := ih (e + 1) (by omega)
      rwa [show e + 1 + k = e + (k + 1) by omega] at this
    · omega

theorem worded_letters (s : ByteArray) (hs : s.size ≤ 140737488351232) (a x8 : Int) : ∀ (k e : Nat) (x7 x9 : Int), e ≤ s.size → run isLetter s e = k → 0 ≤ x9 → x9 + k ≤ 140737488351232 → (x7 < 0 → x9 ≤ 10) →
    ∀ K, hoarstoneref08_worded.l0 (K + k) s a x7 x8 x9 e = hoarstoneref08_worded.l0 K s a (if x7 < 0 ∧ 10 < x9 + k then e + (10 - x9) else x7) x8 (x9 + k) (e + k : Nat) := by
  intro k
  induction k with
  | zero =>
    intro e x7 x9 he hr h9 h9b h7 K
    rw [if_neg (by omega)]
    simp
  | succ k ih =>
    intro e x7 x9 he hr h9 h9b h7 K
    have hlt : e < s.size := by
      rcases Nat.lt_or_ge e s.size with h1 | h1
      · exact h1
      · rw [run_end _ _ _ h1] at hr; omega
    rw [run_cons _ _ _ hlt] at hr
    split at hr
    · rename_i hc
      have hr' : run isLetter s (e + 1) = k := by omega
      rw [show K + (k + 1) = (K + k) + 1 by omega, hoarstoneref08_worded.l0, if_pos (by omega), if_pos (by omega), letter_f, Option.bind_some, if_pos hc, w64 (by omega) (by omega), w64 (by omega) (by omega), show ((e : Int) + 1) = ((e + 1 : Nat) : Int) by omega, show e + (k + 1) = e + 1 + k by omega]
      by_cases h10 : x9 + 1 > 10
      · rw [if_pos h10]
        by_cases h7n : x7 < 0
        · rw [if_pos h7n, ih (e + 1) e (x9 + 1) (by omega) hr' (by omega) (by omega) (by omega) K]
          congr 1
          · rw [if_neg (by omega), if_pos (by omega)]
            have := h7 h7n
            omega
          · omega
        · rw [if_neg h7n, ih (e + 1) x7 (x9 + 1) (by omega) hr' (by omega) (by omega) (by omega) K]
          congr 1
          · rw [if_neg (by omega), if_neg (by omega)]
          · omega
      · rw [if_neg h10, ih (e + 1) x7 (x9 + 1) (by omega) hr' (by omega) (by omega) (by omega) K]
        congr 1
        · by_cases hq : x7 < 0 ∧ 10 < x9 + 1 + k
          · rw [if_pos hq, if_pos (by omega)]; omega
          · rw [if_neg hq, if_neg (by omega)]
        · omega
    · omega

/-- What worded gives, cut at a length, wrong at an index. -/
def wOut (s : ByteArray) (a n x7 : Int) : Int × Int × ByteArray × Int × Int × Int × Int × Bool :=
  (if isKw (s.extract a.toNat (a + n).toNat) = true then 4 else 1, 0, s.extract a.toNat (a + n).toNat, 0, 0, 0, x7, true)

theorem kw_end (s : ByteArray) (a n x7 : Int) : Ev (fun k => (hoarstoneref08_Keyword.f k (s.extract a.toNat (a + n).toNat)).bind fun t => if t = true then some ((4 : Int), (0 : Int), s.extract a.toNat (a + n).toNat, (0 : Int), (0 : Int), (0 : Int), x7, true) else some (1, 0, s.extract a.toNat (a + n).toNat, 0, 0, 0, x7, true)) (wOut s a n x7) := by
  refine Ev.bind (Keyword_f _) (Ev.of 0 (fun k => ?_))
  unfold wOut
  split <;> rfl

theorem worded_more (s : ByteArray) (hs : s.size ≤ 140737488351232) (a x7 x8 x9 e : Int) (he : 0 ≤ e) (hm : more s e = true) (h8 : 0 ≤ x8) (h8b : x8 ≤ 140737488351232) :
    ∀ K, hoarstoneref08_worded.l0 (K + 2) s a x7 x8 x9 e = hoarstoneref08_worded.l0 K s a (if 5 < x8 + 1 ∧ x7 < 0 then e else x7) (x8 + 1) 0 (e + 1) := by
  intro K
  unfold more at hm
  simp only [Bool.and_eq_true, decide_eq_true_eq, beq_iff_eq] at hm
  obtain ⟨h1, h2, h3⟩ := hm
  have hl : isLetter (bt s e) = false := by rw [h2]; decide
  rw [show K + 2 = K + 1 + 1 by omega, hoarstoneref08_worded.l0, if_pos (by omega), if_pos he, letter_f, Option.bind_some, hl, if_neg (by simp), if_pos h2, w64 (by omega) (by omega), if_pos h1, if_pos (by omega), letter_f, Option.bind_some, h3, hoarstoneref08_worded.j1, if_pos rfl, w64 (by omega) (by omega), w64 (by omega) (by omega)]
  by_cases h5 : x8 + 1 > 5
  · rw [if_pos h5]
    by_cases h7 : x7 < 0
    · rw [if_pos h7, if_pos (by omega)]
    · rw [if_neg h7, if_neg (by omega)]
  · rw [if_neg h5, if_neg (by omega)]

theorem worded_last (s : ByteArray) (hs : s.size ≤ 140737488351232) (a n x7 x8 x9 : Int) (h0 : 0 ≤ a) (hn : 0 ≤ n) (he : a + n ≤ s.size) (hr : run isLetter s (a + n).toNat = 0) (hm : more s (a + n) = false) :
    Ev (fun k => hoarstoneref08_worded.l0 k s a x7 x8 x9 (a + n)) (wOut s a n x7) := by
  have hk := kw_end s a n x7
  by_cases hlt : a + n < s.size
  · have hl : isLetter (bt s (a + n)) = false := by
      rw [run_cons _ _ _ (by omega)] at hr
      split at hr
      · omega
      · rename_i hc
        rw [show (((a + n).toNat : Nat) : Int) = a + n by omega] at hc
        simpa using hc
    have hj : ∀ k, hoarstoneref08_worded.l0 (k + 1 + 1) s a x7 x8 x9 (a + n) = hoarstoneref08_worded.j1 (k + 1) s a x7 x8 (a + n) false := fun k => by
      rw [hoarstoneref08_worded.l0, if_pos hlt, if_pos (by omega), letter_f, Option.bind_some, hl, if_neg (by simp)]
      unfold more at hm
      by_cases h46 : bt s (a + n) = 46
      · rw [if_pos h46, w64 (by omega) (by omega)]
        by_cases hn1 : a + n + 1 < s.size
        · rw [if_pos hn1, if_pos (by omega), letter_f, Option.bind_some]
          have : isLetter (bt s (a + n + 1)) = false := by simpa [hn1, h46] using hm
          rw [this]
        · rw [if_neg hn1]
      · rw [if_neg h46]
    refine hk.step 2 (fun k => ?_)
    rw [show k + 2 = k + 1 + 1 by omega, hj, hoarstoneref08_worded.j1, if_neg (by simp), if_pos h0, if_pos (by omega), if_pos he]
  · refine hk.step 1 (fun k => ?_)
    rw [hoarstoneref08_worded.l0, if_neg hlt, if_pos h0, if_pos (by omega), if_pos he]

def ab (a b : Int) : Int := if b < 0 then -1 else a + b

theorem ab_neg {a b : Int} (h : b < 0) : ab a b = -1 := if_pos h
theorem ab_pos {a b : Int} (h : ¬ b < 0) : ab a b = a + b := if_neg h
theorem ab_step (a n d bad : Int) (c c' : Prop) [Decidable c] [Decidable c'] (x : Int) (hc : c' ↔ c) (hx : x = a + (n + d)) (h0 : 0 ≤ n + d) (ha : 0 ≤ a) : (if ab a bad < 0 ∧ c' then x else ab a bad) = ab a (if c ∧ bad < 0 then n + d else bad) := by
  by_cases hb : bad < 0
  · rw [ab_neg hb]
    by_cases h : c
    · rw [if_pos ⟨by omega, hc.2 h⟩, if_pos ⟨h, hb⟩, ab_pos (by omega), hx]
    · rw [if_neg (fun q => h (hc.1 q.2)), if_neg (fun q => h q.1), ab_neg hb]
  · rw [ab_pos hb, if_neg (fun q => by omega), if_neg (fun q => hb q.2), ab_pos hb]
theorem ab_step2 (a n bad : Int) (c : Prop) [Decidable c] (h0 : 0 ≤ n) (ha : 0 ≤ a) : (if c ∧ ab a bad < 0 then a + n else ab a bad) = ab a (if c ∧ bad < 0 then n else bad) := by
  by_cases hb : bad < 0
  · rw [ab_neg hb]
    by_cases h : c
    · rw [if_pos ⟨h, by omega⟩, if_pos ⟨h, hb⟩, ab_pos (by omega)]
    · rw [if_neg (fun q => h q.1), if_neg (fun q => h q.1), ab_neg hb]
  · rw [ab_pos hb, if_neg (fun q => by omega), if_neg (fun q => hb q.2), ab_pos hb]

theorem worded_ev (s : ByteArray) (hs : s.size ≤ 140737488351232) (a : Int) (h0 : 0 ≤ a) : ∀ (f : Nat) (n bad many : Int), 0 ≤ n → a + n ≤ s.size → (s.size : Int) - (a + n) < f → -1 ≤ bad → 0 ≤ many → many + (s.size - (a + n)) ≤ 140737488351232 →
    Ev (fun K => hoarstoneref08_worded.l0 K s a (ab a bad) many 0 (a + n)) (wOut s a (wordsL s a f n bad many).1 (ab a (wordsL s a f n bad many).2)) := by
  intro f
  induction f with
  | zero => intro n bad many h1 h2 h3 h4 h5 h6; omega
  | succ f ih =>
    intro n bad many h1 h2 h3 h4 h5 h6
    simp only [wordsL]
    have hrl := run_le isLetter s (a + n).toNat (by omega)
    have hra := run_after isLetter s _ (a + n).toNat rfl
    obtain ⟨k, hk⟩ : ∃ k, run isLetter s (a + n).toNat = k := ⟨_, rfl⟩
    rw [hk] at hrl hra ⊢
    have hL := fun K => worded_letters s hs a many k (a + n).toNat (ab a bad) 0 (by omega) hk (by omega) (by omega) (by omega) K
    rw [show (((a + n).toNat : Nat) : Int) = a + n by omega] at hL
    have e1 : (((a + n).toNat + k : Nat) : Int) = a + (n + k) := by omega
    have e2 : (a + n).toNat + k = (a + (n + k)).toNat := by omega
    rw [e2] at hra
    rw [e1] at hL
    have hb : (if ab a bad < 0 ∧ 10 < (0 : Int) + (k : Int) then a + n + (10 - 0) else ab a bad) = ab a (if 10 < (k : Int) ∧ bad < 0 then n + 10 else bad) := by
      exact ab_step a n 10 bad (10 < (k : Int)) (10 < (0 : Int) + (k : Int)) (a + n + (10 - 0)) (by omega) (by omega) (by omega) h0
    rw [hb] at hL
    have hb1 : -1 ≤ (if 10 < (k : Int) ∧ bad < 0 then n + 10 else bad) := by split <;> omega
    generalize (if 10 < (k : Int) ∧ bad < 0 then n + 10 else bad) = bad1 at hL hb1 ⊢
    by_cases hm : more s (a + (n + k)) = true
    · rw [if_pos hm]
      have hlt : a + (n + k) + 1 < s.size := by
        unfold more at hm
        simp only [Bool.and_eq_true, decide_eq_true_eq] at hm
        omega
      refine (ih (n + k + 1) (if 5 < many + 1 ∧ bad1 < 0 then n + k else bad1) (many + 1) (by omega) (by omega) (by omega) (by split <;> omega) (by omega) (by omega)).step (2 + k) (fun K => ?_)
      rw [show K + (2 + k) = K + 2 + k by omega, hL, worded_more s hs a _ many _ _ (by omega) hm h5 (by omega) K]
      congr 1
      · exact ab_step2 a (n + k) bad1 (5 < many + 1) (by omega) h0
      · omega
    · rw [if_neg hm]
      have hm' : more s (a + (n + k)) = false := by simpa using hm
      refine (worded_last s hs a (n + k) (ab a bad1) many (0 + k) h0 (by omega) (by omega) hra hm').step k (fun K => ?_)
      rw [hL]

theorem worded_f (s : ByteArray) (hs : s.size ≤ 140737488351000) (a : Int) (h0 : 0 ≤ a) (ha : a ≤ s.size) :
    Ev (fun k => hoarstoneref08_worded.f k s a) ((nextWord s a).1.kind, (nextWord s a).1.num, (nextWord s a).1.text, 0, 0, 0, ab a (nextWord s a).2, true) := by
  have h := worded_ev s (by omega) a h0 (s.size + 1) 0 (-1) 1 (by omega) (by omega) (by omega) (by omega) (by omega) (by omega)
  rw [Int.add_zero] at h
  exact h

end Go.Proofs.YtfnhjdehlikbaaaGreatDoor.Lx

/- What the reference's printed functions compute: numbered, cut. -/
namespace Go.Proofs.YtfnhjdehlikbaaaGreatDoor.Lx
open Go.RowKit Go.Proofs.YtfnhjdehlikbaaaGreatDoorW.PrintWords Go.Proofs.YtfnhjdehlikbaaaGreatDoor.PLexTokens

/-- The value of digits, never above the greatest number and one. -/
def valL : List UInt8 → Int → Int
  | [], v => v
  | b :: l, v => valL l (min (10 * v + ((b.toNat : Int) - 48)) 1073741825)

theorem valL_top : ∀ (l : List UInt8), (∀ b ∈ l, 48 ≤ b.toNat ∧ b.toNat ≤ 57) → valL l 1073741825 = 1073741825 := by
  intro l
  induction l with
  | nil => intro _; rfl
  | cons b l ih =>
    intro h
    have hb := h b (by simp)
    rw [valL, show min (10 * (1073741825 : Int) + ((b.toNat : Int) - 48)) 1073741825 = 1073741825 by omega]
    exact ih (fun x hx => h x (by simp [hx]))
theorem valL_num : ∀ (l : List UInt8) (v : Int), 0 ≤ v → v ≤ 1073741824 → (∀ b ∈ l, 48 ≤ b.toNat ∧ b.toNat ≤ 57) → (numL l v ≤ 1073741824 → valL l v = numL l v) ∧ (1073741824 < numL l v → valL l v = 1073741825) := by
  intro l
  induction l with
  | nil => intro v h0 h1 _; exact ⟨fun _ => rfl, fun h => by simp only [numL] at h; omega⟩
  | cons b l ih =>
    intro v h0 h1 h
    have hb := h b (by simp)
    have hl : ∀ x ∈ l, 48 ≤ x.toNat ∧ x.toNat ≤ 57 := fun x hx => h x (by simp [hx])
    simp only [numL, valL]
    by_cases hm : 1073741824 < 10 * v + ((b.toNat : Int) - 48)
    · rw [if_pos hm, show min (10 * v + ((b.toNat : Int) - 48)) 1073741825 = 1073741825 by omega, valL_top l hl]
      exact ⟨fun hx => by omega, fun _ => rfl⟩
    · rw [if_neg hm, show min (10 * v + ((b.toNat : Int) - 48)) 1073741825 = 10 * v + ((b.toNat : Int) - 48) by omega]
      exact ih _ (by omega) (by omega) hl
theorem valL_le : ∀ (l : List UInt8) (v : Int), 0 ≤ v → v ≤ 1073741825 → (∀ b ∈ l, 48 ≤ b.toNat ∧ b.toNat ≤ 57) → 0 ≤ valL l v ∧ valL l v ≤ 1073741825 := by
  intro l
  induction l with
  | nil => intro v h0 h1 _; exact ⟨h0, h1⟩
  | cons b l ih =>
    intro v h0 h1 h
    have hb := h b (by simp)
    exact ih _ (by omega) (by omega) (fun x hx => h x (by simp [hx]))

theorem mn_min (a b : Int) : mn a b = min a b := by unfold mn; split <;> omega

theorem numbered_digits (s : ByteArray) (hs : s.size ≤ 140737488351232) (a : Int) : ∀ (k e : Nat) (v : Int), e ≤ s.size → run isDigit s e = k → 0 ≤ v → v ≤ 1073741825 →
    ∀ K, hoarstoneref08_numbered.l0 (K + k) s a e v = hoarstoneref08_numbered.l0 K s a (e + k : Nat) (valL ((s.data.toList.drop e).take k) v) := by
  intro k
  induction k with
  | zero => intro e v he hr h0 h1 K; simp [valL]
  | succ k ih =>
    intro e v he hr h0 h1 K
    have hlt : e < s.size := by
      rcases Nat.lt_or_ge e s.size with h1 | h1
      · exact h1
      · rw [run_end _ _ _ h1] at hr; omega
    rw [run_cons _ _ _ hlt] at hr
    split at hr
    · rename_i hc
      have hr' : run isDigit s (e + 1) = k := by omega
      have hd := digit_range hc
      have hbt : bt s e = ((s[e]'hlt).toNat : Int) := (bt_at s e hlt).symm
      rw [show K + (k + 1) = (K + k) + 1 by omega, hoarstoneref08_numbered.l0, if_pos (by omega), if_pos (by omega), digit_f, Option.bind_some, if_pos hc, w64 (by omega) (by omega), show ((e : Int) + 1) = ((e + 1 : Nat) : Int) by omega, w64 (x := 10 * v) (by omega) (by omega), show (bt s e - 48) % 256 = bt s e - 48 by omega, w64 (by omega) (by omega), mn_min,
        ih (e + 1) _ (by omega) hr' (by omega) (by omega) K, drop_cons s e hlt, List.take_succ_cons, valL, hbt, show e + (k + 1) = e + 1 + k by omega]
    · omega

theorem numbered_f (s : ByteArray) (hs : s.size ≤ 140737488351232) (a : Int) (h0 : 0 ≤ a) (ha : a < s.size) :
    ∃ v, ((nextNum s a).2 < 0 → v = (nextNum s a).1.num) ∧ Ev (fun k => hoarstoneref08_numbered.f k s a) (2, v, (nextNum s a).1.text, 0, 0, 0, ab a (nextNum s a).2, true) := by
  obtain ⟨k, hk⟩ : ∃ k, run isDigit s a.toNat = k := ⟨_, rfl⟩
  have hrl := run_le isDigit s a.toNat (by omega)
  have hra := run_after isDigit s _ a.toNat rfl
  have hdig := digits_of_run s a h0 (by omega)
  rw [hk] at hrl hra hdig
  have hL := fun K => numbered_digits s hs a k a.toNat 0 (by omega) hk (by omega) (by omega) K
  rw [show ((a.toNat : Nat) : Int) = a by omega] at hL
  have e1 : ((a.toNat + k : Nat) : Int) = a + k := by omega
  rw [e1] at hL
  have htx : (s.extract a.toNat (a + (k : Int)).toNat).data.toList = (s.data.toList.drop a.toNat).take k := part_extract s a k h0
  have hall : ∀ b ∈ (s.data.toList.drop a.toNat).take k, 48 ≤ b.toNat ∧ b.toNat ≤ 57 := by
    rw [← htx]
    intro b hb
    obtain ⟨i, hi, rfl⟩ := List.getElem_of_mem hb
    have hi' : i < (s.extract a.toNat (a + (k : Int)).toNat).size := by rw [← len_data]; exact hi
    have := digit_range (hdig i hi')
    have e : (s.extract a.toNat (a + (k : Int)).toNat).data.toList[i] = (s.extract a.toNat (a + (k : Int)).toNat)[i]'hi' := rfl
    rw [e]
    omega
  have hval := valL_num ((s.data.toList.drop a.toNat).take k) 0 (by omega) (by omega) hall
  have hle := valL_le ((s.data.toList.drop a.toNat).take k) 0 (by omega) (by omega) hall
  have hnum : number (s.extract a.toNat (a + (k : Int)).toNat) = numL ((s.data.toList.drop a.toNat).take k) 0 := by unfold number; rw [htx]
  unfold nextNum
  simp only [hk, hnum]
  generalize valL ((s.data.toList.drop a.toNat).take k) 0 = v at hL hval hle
  generalize numL ((s.data.toList.drop a.toNat).take k) 0 = m at hval ⊢
  refine ⟨v, ?_, ?_⟩
  · intro hlt
    split at hlt
    · omega
    · exact hval.1 (by omega)
  · have hj : ∀ K, hoarstoneref08_numbered.l0 (K + 1) s a (a + k) v = hoarstoneref08_numbered.j1 K s a (a + k) v := fun K => by
      rw [hoarstoneref08_numbered.l0]
      by_cases hlt : a + (k : Int) < s.size
      · rw [if_pos hlt, if_pos (by omega), digit_f, Option.bind_some]
        have hd : isDigit (bt s (a + k)) = false := by
          rw [run_cons _ _ _ (by omega)] at hra
          split at hra
          · omega
          · rename_i hc
            rw [e1] at hc
            simpa using hc
        rw [hd, if_neg (by simp)]
      · rw [if_neg hlt]
    refine Ev.of (1 + 1 + k) (fun K => ?_)
    show hoarstoneref08_numbered.l0 (K + (1 + 1 + k)) s a a 0 = _
    rw [show K + (1 + 1 + k) = (K + 1 + 1) + k by omega, hL, hj, hoarstoneref08_numbered.j1, if_pos h0, if_pos (by omega), if_pos (by omega)]
    by_cases hm : 1073741824 < m
    · have := hval.2 hm
      rw [if_pos (by omega), if_pos hm]
      simp [ab]
    · have := hval.1 (by omega)
      rw [if_neg (by omega), if_neg hm, if_pos ha, w64 (x := a + k - a) (by omega) (by omega)]
      by_cases h48 : bt s a = 48
      · rw [if_pos h48]
        by_cases hk1 : 1 < (k : Int)
        · rw [if_pos (by omega), if_pos ⟨hk1, h48⟩, w64 (by omega) (by omega)]
          simp [ab]
        · rw [if_neg (by omega), if_neg (by omega)]
          simp [ab]
      · rw [if_neg h48, if_neg (fun h => h48 h.2)]
        simp [ab]

/-- A sign stands at an index. -/
theorem prefix_iff (s x : ByteArray) (a : Int) (h0 : 0 ≤ a) (ha : a ≤ s.size) : hasPrefix (s.extract a.toNat s.size) x = true ↔ a + x.size ≤ s.size ∧ (s.extract a.toNat (a + x.size).toNat).toList = x.toList := by
  unfold hasPrefix
  rw [List.isPrefixOf_iff_prefix, List.prefix_iff_eq_take, drop_extract, len_data, ByteArray.toList_eq, ByteArray.toList_eq]
  have hp : (s.extract a.toNat (a + (x.size : Int)).toNat).data.toList = (s.data.toList.drop a.toNat).take x.size := part_extract s a x.size h0
  rw [hp]
  constructor
  · intro h
    refine ⟨?_, h.symm⟩
    have := congrArg List.length h
    rw [len_data, List.length_take, List.length_drop, len_data] at this
    omega
  · exact fun h => h.2.symm

theorem cut_l0 (s : ByteArray) (hs : s.size ≤ 140737488351232) (a : Int) (h0 : 0 ≤ a) (ha : a ≤ s.size) : ∀ (l : List ByteArray) (n i : Nat), (∀ x ∈ l, x.size ≤ 2) → l.length ≤ 1000 → i + n = l.length →
    Ev (fun k => hoarstoneref08_cut.l0 k s a l i) (match (l.drop i).find? (fun x => hasPrefix (s.extract a.toNat s.size) x) with | some x => (3, 0, x, 0, 0, 0, -1, true) | none => (0, 0, ⟨#[]⟩, 0, 0, 0, -1, false)) := by
  intro l n
  induction n with
  | zero =>
    intro i hx hl hi
    refine Ev.of 1 (fun k => ?_)
    rw [hoarstoneref08_cut.l0, if_neg (by omega), List.drop_eq_nil_of_le (by omega)]
    rfl
  | succ n ih =>
    intro i hx hl hi
    have hlt : i < l.length := by omega
    rw [List.drop_eq_getElem_cons hlt, List.find?_cons]
    have hrd : rdOf ByteArray.empty l (i : Int) = l[i] := by simp [rdOf, hlt]
    have hsz := hx l[i] (List.getElem_mem hlt)
    have hpi := prefix_iff s l[i] a h0 ha
    generalize l[i] = x at hrd hsz hpi ⊢
    have hnext := ih (i + 1) hx hl (by omega)
    by_cases hp : hasPrefix (s.extract a.toNat s.size) x = true
    · obtain ⟨h1, h2⟩ := hpi.1 hp
      rw [hp]
      refine Ev.of 1 (fun k => ?_)
      rw [hoarstoneref08_cut.l0, if_pos (by omega), if_pos (by omega), hrd, w64 (by omega) (by omega), if_pos h1, if_pos h0, if_pos (by omega), if_pos h2]
    · have hpf : hasPrefix (s.extract a.toNat s.size) x = false := by simpa using hp
      rw [hpf]
      refine hnext.step 1 (fun k => ?_)
      rw [hoarstoneref08_cut.l0, if_pos (by omega), if_pos (by omega), hrd, w64 (x := a + x.size) (by omega) (by omega), w64 (by omega) (by omega)]
      by_cases h1 : a + x.size ≤ s.size
      · rw [if_pos h1, if_pos h0, if_pos (by omega), if_neg (fun h2 => hp (hpi.2 ⟨h1, h2⟩))]
        rfl
      · rw [if_neg h1]
        rfl

theorem kind_fin : ∀ n : Fin 256, kindOf (n.val : Int) = if isLetter n.val = true then 1 else if isDigit n.val = true then 2 else if isSign 18 n.val = true then 3 else 0 := by decide +kernel
theorem kind_eq (s : ByteArray) (a : Int) : kindOf (bt s a) = if isLetter (bt s a) = true then 1 else if isDigit (bt s a) = true then 2 else if isSign 18 (bt s a) = true then 3 else 0 := by
  obtain ⟨h0, h1⟩ := bt_range s a
  have := kind_fin ⟨(bt s a).toNat, by omega⟩
  simp only [show (((bt s a).toNat : Nat) : Int) = bt s a by omega] at this
  exact this
theorem sign_fin : ∀ n : Fin 256, isSign 18 n.val = true → (sgs.any fun x => x.data.toList == [UInt8.ofNat n.val]) = true := by decide +kernel

theorem first_byte (s : ByteArray) (a : Int) (h0 : 0 ≤ a) (ha : a < s.size) : ∃ l, (s.extract a.toNat s.size).data.toList = UInt8.ofNat (bt s a).toNat :: l := by
  rw [drop_extract, drop_cons s a.toNat (by omega)]
  refine ⟨s.data.toList.drop (a.toNat + 1), ?_⟩
  have := bt_at s a (by omega)
  rw [← this]
  simp

theorem sign_some (s : ByteArray) (a : Int) (h0 : 0 ≤ a) (ha : a < s.size) (h : isSign 18 (bt s a) = true) : ∃ x, sgs.find? (fun x => hasPrefix (s.extract a.toNat s.size) x) = some x := by
  obtain ⟨b0, b1⟩ := bt_range s a
  have hf := sign_fin ⟨(bt s a).toNat, by omega⟩ (by simpa only [show (((bt s a).toNat : Nat) : Int) = bt s a by omega] using h)
  rw [List.any_eq_true] at hf
  obtain ⟨x, hx, hxe⟩ := hf
  obtain ⟨l, hl⟩ := first_byte s a h0 ha
  rw [← Option.isSome_iff_exists, List.find?_isSome]
  refine ⟨x, hx, ?_⟩
  unfold hasPrefix
  simp only [beq_iff_eq] at hxe
  rw [hxe, hl]
  simp
theorem sign_none (s : ByteArray) (a : Int) (h0 : 0 ≤ a) (ha : a < s.size) (h : isSign 18 (bt s a) = false) : sgs.find? (fun x => hasPrefix (s.extract a.toNat s.size) x) = none := by
  obtain ⟨b0, b1⟩ := bt_range s a
  obtain ⟨l, hl⟩ := first_byte s a h0 ha
  rw [List.find?_eq_none]
  intro x hx hp
  have hx2 : ∃ c t, x.data.toList = c :: t := by
    have : ∀ y ∈ sgs, 0 < y.data.toList.length := by decide +kernel
    have := this x hx
    cases hh : x.data.toList with
    | nil => rw [hh] at this; simp at this
    | cons c t => exact ⟨c, t, rfl⟩
  obtain ⟨c, t, hc⟩ := hx2
  unfold hasPrefix at hp
  rw [hc, hl] at hp
  simp at hp
  have hbx : bt x 0 = bt s a := by
    have : bt x 0 = (c.toNat : Int) := by
      rw [bt_list x 0 (by omega), hc]
      rfl
    rw [this, hp.1]
    simp
    omega
  have : isSign 18 (bt s a) = true := by
    unfold isSign
    rw [List.any_eq_true]
    exact ⟨x, by simpa [show sgs.take 18 = sgs from rfl] using hx, by simp [hbx]⟩
  rw [h] at this
  cases this

theorem cut_f (s : ByteArray) (hs : s.size ≤ 140737488351000) (a : Int) (h0 : 0 ≤ a) (ha : a < s.size) :
    if kindOf (bt s a) = 0 then Ev (fun k => hoarstoneref08_cut.f k s a) (0, 0, ⟨#[]⟩, 0, 0, 0, -1, false)
    else ∃ v, ((nextOf s a (kindOf (bt s a))).2 < 0 → v = (nextOf s a (kindOf (bt s a))).1.num) ∧ Ev (fun k => hoarstoneref08_cut.f k s a) ((nextOf s a (kindOf (bt s a))).1.kind, v, (nextOf s a (kindOf (bt s a))).1.text, 0, 0, 0, ab a (nextOf s a (kindOf (bt s a))).2, true) := by
  have hk := kind_eq s a
  have hopen : ∀ k, hoarstoneref08_cut.f k s a = if isLetter (bt s a) = true then (hoarstoneref08_worded.f k s a).bind fun b => some (b.1, b.2.1, b.2.2.1, b.2.2.2.1, b.2.2.2.2.1, b.2.2.2.2.2.1, b.2.2.2.2.2.2.1, b.2.2.2.2.2.2.2) else if isDigit (bt s a) = true then (hoarstoneref08_numbered.f k s a).bind fun b => some (b.1, b.2.1, b.2.2.1, b.2.2.2.1, b.2.2.2.2.1, b.2.2.2.2.2.1, b.2.2.2.2.2.2.1, b.2.2.2.2.2.2.2) else hoarstoneref08_cut.l0 k s a sgs 0 := fun k => by
    unfold hoarstoneref08_cut.f
    rw [if_neg (by omega), if_pos h0, if_pos ha, letter_f, Option.bind_some, digit_f, Option.bind_some]
    rfl
  by_cases hl : isLetter (bt s a) = true
  · rw [if_pos hl] at hk
    rw [hk, if_neg (by omega)]
    refine ⟨(nextOf s a 1).1.num, fun _ => rfl, ?_⟩
    have hw := worded_f s hs a h0 (by omega)
    have hw2 := Ev.bind (g := fun _ b => some (b.1, b.2.1, b.2.2.1, b.2.2.2.1, b.2.2.2.2.1, b.2.2.2.2.2.1, b.2.2.2.2.2.2.1, b.2.2.2.2.2.2.2)) hw (Ev.of 0 (fun k => rfl))
    refine hw2.step 0 (fun k => ?_)
    rw [Nat.add_zero, hopen, if_pos hl]
  · rw [if_neg hl] at hk
    by_cases hd : isDigit (bt s a) = true
    · rw [if_pos hd] at hk
      rw [hk, if_neg (by omega)]
      obtain ⟨v, hv, hw⟩ := numbered_f s (by omega) a h0 ha
      refine ⟨v, hv, ?_⟩
      have hw2 := Ev.bind (g := fun _ b => some (b.1, b.2.1, b.2.2.1, b.2.2.2.1, b.2.2.2.2.1, b.2.2.2.2.2.1, b.2.2.2.2.2.2.1, b.2.2.2.2.2.2.2)) hw (Ev.of 0 (fun k => rfl))
      refine hw2.step 0 (fun k => ?_)
      rw [Nat.add_zero, hopen, if_neg hl, if_pos hd]
    · rw [if_neg hd] at hk
      have hc := cut_l0 s (by omega) a h0 (by omega) sgs 18 0 (by decide +kernel) (by decide) rfl
      rw [List.drop_zero] at hc
      have hc2 := hc.step (f := fun k => hoarstoneref08_cut.f k s a) 0 (fun k => by rw [Nat.add_zero, hopen, if_neg hl, if_neg hd]; rfl)
      by_cases hsg : isSign 18 (bt s a) = true
      · rw [if_pos hsg] at hk
        rw [hk, if_neg (by omega)]
        obtain ⟨x, hx⟩ := sign_some s a h0 ha hsg
        rw [hx] at hc2
        simp only at hc2
        have hlo : longest (s.extract a.toNat s.size) = x := by unfold longest; rw [hx]; rfl
        have hp := (prefix_iff s x a h0 (by omega)).1 (List.find?_some hx)
        have hxe : s.extract a.toNat (a + (x.size : Int)).toNat = x := by
          have h2 := hp.2
          rw [ByteArray.toList_eq, ByteArray.toList_eq] at h2
          exact ByteArray.ext (Array.toList_inj.1 h2)
        have hxp : 0 < x.size := by
          have : ∀ y ∈ sgs, 0 < y.size := by decide +kernel
          exact this x (List.mem_of_find?_eq_some hx)
        refine ⟨0, fun _ => rfl, ?_⟩
        have e : nextOf s a 3 = (⟨3, 0, x, a, (posOf s a).1, (posOf s a).2⟩, -1) := by
          simp only [nextOf, nextSign, show ¬ (3 : Int) = 1 by omega, show ¬ (3 : Int) = 2 by omega, if_false, hlo, hxe]
          rw [if_neg (by omega)]
        rw [e]
        exact hc2
      · rw [if_neg hsg] at hk
        rw [hk, if_pos rfl]
        rw [sign_none s a h0 ha (by simpa using hsg)] at hc2
        exact hc2

end Go.Proofs.YtfnhjdehlikbaaaGreatDoor.Lx

/- What the reference's printed Raw and Path compute. -/
namespace Go.Proofs.YtfnhjdehlikbaaaGreatDoor.Lx
open Go.RowKit Go.Proofs.YtfnhjdehlikbaaaGreatDoorW.PrintWords Go.Proofs.YtfnhjdehlikbaaaGreatDoor.PLexTokens

def toS (t : Tok) : S121 := ⟨t.kind, t.num, t.text, t.at_, t.line, t.col⟩

theorem posOf_succ (s : ByteArray) (i : Nat) (h : i < s.size) : posOf s (i + 1 : Nat) = if bt s i = 10 then ((posOf s i).1 + 1, 0) else ((posOf s i).1, (posOf s i).2 + 1) := by
  unfold posOf
  rw [Int.toNat_natCast, Int.toNat_natCast]
  have hl : i < s.data.toList.length := by rw [len_data]; exact h
  rw [List.take_succ_eq_append_getElem hl, adv_snoc]
  have e : bt s i = ((s.data.toList[i]).toNat : Int) := (bt_at s i h).symm
  rw [e]
  by_cases hb : s.data.toList[i] = 10
  · rw [if_pos hb, hb, if_pos (by decide)]
  · rw [if_neg hb, if_neg (fun hh => hb (UInt8.toNat_inj.1 (by show _ = 10; omega)))]

theorem layL_le (s : ByteArray) : ∀ (f : Nat) (a : Int), 0 ≤ a → a ≤ s.size → layL s f a ≤ s.size := by
  intro f
  induction f with
  | zero => intro a _ h; exact h
  | succ f ih =>
    intro a h0 h
    simp only [layL]
    split
    · split
      · exact ih (a + 1) (by omega) (by omega)
      · split
        · have := run_le (fun c => c != 10) s a.toNat (by omega)
          exact ih _ (by omega) (by omega)
        · exact h
    · exact h

theorem raw_l1 (s : ByteArray) (hs : s.size ≤ 140737488351000) (x5 : List S121) (x9 : Int) (hx : x9 ≤ s.size) (t0 t1 : Int) (t2 : ByteArray) (t3 t4 t5 : Int) : ∀ (n i : Nat) (x6 x7 : Int), (i : Int) + n = x9 → posOf s i = (x6, i - x7) →
    ∃ x7', posOf s x9 = ((posOf s x9).1, x9 - x7') ∧ ∀ k, hoarstoneref08_Raw.l1 (k + n + 1) s x5 x6 x7 i x9 t0 t1 t2 t3 t4 t5 = if x5.length < 2513169434916 then ((hoarstoneref08_past.f k s (wrap64 (x9 + (t2.size : Int)))).bind fun t163 => (hoarstoneref08_Raw.l0 k s (x5 ++ [(⟨t0, t1, t2, x9, (posOf s x9).1, wrap64 (x9 - x7')⟩ : S121)]) (posOf s x9).1 x7' x9 t163)) else none := by
  intro n
  induction n with
  | zero =>
    intro i x6 x7 hi hp
    obtain rfl : (i : Int) = x9 := by omega
    refine ⟨x7, by rw [hp], fun k => ?_⟩
    simp only [Nat.add_zero]
    rw [hoarstoneref08_Raw.l1, if_neg (by omega), hp]
  | succ n ih =>
    intro i x6 x7 hi hp
    have hlt : i < s.size := by omega
    have hps := posOf_succ s i hlt
    rw [hp] at hps
    by_cases h10 : bt s i = 10
    · rw [if_pos h10] at hps
      obtain ⟨x7', e1, e2⟩ := ih (i + 1) (x6 + 1) (i + 1) (by omega) (by rw [hps]; exact Prod.ext rfl (by simp only; omega))
      refine ⟨x7', e1, fun k => ?_⟩
      have hb := posOf_le s i
      rw [hp] at hb
      simp only at hb
      rw [show k + (n + 1) + 1 = (k + n + 1) + 1 by omega, hoarstoneref08_Raw.l1, if_pos (by omega), if_pos (by omega), if_pos (by omega), if_pos h10, w64 (x := x6 + 1) (by omega) (by omega), w64 (by omega) (by omega), show (i : Int) + 1 = ((i + 1 : Nat) : Int) by omega]
      have := e2 k
      rwa [show (i : Int) + 1 = ((i + 1 : Nat) : Int) by omega] at this
    · rw [if_neg h10] at hps
      obtain ⟨x7', e1, e2⟩ := ih (i + 1) x6 x7 (by omega) (by rw [hps]; exact Prod.ext rfl (by simp only; omega))
      refine ⟨x7', e1, fun k => ?_⟩
      rw [show k + (n + 1) + 1 = (k + n + 1) + 1 by omega, hoarstoneref08_Raw.l1, if_pos (by omega), if_pos (by omega), if_pos (by omega), if_neg h10, w64 (by omega) (by omega), show (i : Int) + 1 = ((i + 1 : Nat) : Int) by omega]
      exact e2 k

theorem next_place (s : ByteArray) (b k : Int) : (nextOf s b k).1.at_ = b ∧ (nextOf s b k).1.line = (posOf s b).1 ∧ (nextOf s b k).1.col = (posOf s b).2 := by
  unfold nextOf
  split
  · exact ⟨rfl, rfl, rfl⟩
  · split
    · exact ⟨rfl, rfl, rfl⟩
    · exact ⟨rfl, rfl, rfl⟩

theorem raw_ev (s : ByteArray) (hs : s.size ≤ 140737488351000) : ∀ (f : Nat) (a : Int) (acc : List Tok) (x6 x7 : Int) (i : Nat), 0 ≤ a → a ≤ s.size → (s.size : Int) + 2 ≤ a + f → acc.length ≤ 4000 → (i : Int) ≤ lay s a → posOf s i = (x6, i - x7) →
    Ev (fun k => hoarstoneref08_Raw.l0 k s (acc.map toS) x6 x7 i (lay s a)) ((rawL s f a acc).1.map toS, (rawL s f a acc).2.1, (rawL s f a acc).2.2) := by
  intro f
  induction f with
  | zero => intro a acc x6 x7 i h0 h1 h2; omega
  | succ f ih =>
    intro a acc x6 x7 i h0 h1 h2 hacc hi hp
    have hge : a ≤ lay s a := lay_ge s _ a
    have hle : lay s a ≤ s.size := layL_le s _ a h0 h1
    simp only [rawL]
    by_cases hend : lay s a = s.size
    · rw [if_pos hend]
      refine Ev.of 1 (fun k => ?_)
      rw [hoarstoneref08_Raw.l0, if_neg (by omega)]
    · rw [if_neg hend]
      generalize lay s a = b at *
      have hc := cut_f s hs b (by omega) (by omega)
      by_cases hk : kindOf (bt s b) = 0
      · rw [if_pos hk] at hc ⊢
        obtain ⟨k0, h0⟩ := hc
        refine ⟨k0 + 1, fun k hk2 => ?_⟩
        obtain ⟨j, rfl⟩ : ∃ j, k = j + 1 := ⟨k - 1, by omega⟩
        show hoarstoneref08_Raw.l0 (j + 1) s (acc.map toS) x6 x7 i b = _
        rw [hoarstoneref08_Raw.l0, if_pos (by omega)]
        simp only [h0 j (by omega), Option.bind_some]
        rw [if_neg (by simp)]
        rfl
      · rw [if_neg hk] at hc ⊢
        have hnp := next_pos s b (by omega) (by omega) hk
        obtain ⟨nf1, nf2, nf3⟩ := next_fits s b (kindOf (bt s b)) (by omega) (by omega)
        obtain ⟨np1, np2, np3⟩ := next_place s b (kindOf (bt s b))
        generalize nextOf s b (kindOf (bt s b)) = P at hc hnp nf1 nf2 nf3 np1 np2 np3 ⊢
        obtain ⟨t, bad⟩ := P
        simp only at hc hnp nf1 nf2 nf3 np1 np2 np3 ⊢
        obtain ⟨v, hv, k0, hc⟩ := hc
        have hopen : ∀ j, k0 ≤ j → hoarstoneref08_Raw.l0 (j + 1) s (acc.map toS) x6 x7 i b = if ((acc.map toS).length : Int) = 4000 then some ([], b, 2) else if ab b bad ≥ 0 then some ([], ab b bad, 4) else hoarstoneref08_Raw.l1 j s (acc.map toS) x6 x7 i b t.kind v t.text 0 0 0 := fun j hj => by
          rw [hoarstoneref08_Raw.l0, if_pos (by omega)]
          simp only [hc j hj, Option.bind_some]
          rw [if_pos trivial]
        rw [List.length_map] at hopen
        by_cases hm : (acc.length : Int) = 4000
        · rw [if_pos hm]
          refine ⟨k0 + 1, fun k hk2 => ?_⟩
          obtain ⟨j, rfl⟩ : ∃ j, k = j + 1 := ⟨k - 1, by omega⟩
          show hoarstoneref08_Raw.l0 (j + 1) s (acc.map toS) x6 x7 i b = _
          rw [hopen j (by omega), if_pos hm]
          rfl
        · rw [if_neg hm]
          by_cases hb : 0 ≤ bad
          · rw [if_pos hb]
            refine ⟨k0 + 1, fun k hk2 => ?_⟩
            obtain ⟨j, rfl⟩ : ∃ j, k = j + 1 := ⟨k - 1, by omega⟩
            show hoarstoneref08_Raw.l0 (j + 1) s (acc.map toS) x6 x7 i b = _
            rw [hopen j (by omega), if_neg hm, ab_pos (by omega), if_pos (by omega)]
            rfl
          · rw [if_neg hb]
            have hv1 := hv (by omega)
            have hp1 := hnp (by omega)
            obtain ⟨n, hn⟩ : ∃ n : Nat, (i : Int) + n = b := ⟨(b - i).toNat, by omega⟩
            obtain ⟨x7', e1, e2⟩ := raw_l1 s hs (acc.map toS) b hle t.kind v t.text 0 0 0 n i x6 x7 hn hp
            have hcol : (posOf s b).2 = b - x7' := by rw [e1]
            have hpb := posOf_le s b
            have hpast := past_f s (by omega) (b + t.text.size) (by omega) (by omega)
            have hib : ((b.toNat : Nat) : Int) = b := by omega
            have hnx := ih (b + t.text.size) (acc ++ [t]) (posOf s b).1 x7' b.toNat (by omega) (by omega) (by omega) (by simp; omega) (by
                have := lay_ge s (s.size + 1) (b + t.text.size)
                show _ ≤ layL s (s.size + 1) (b + t.text.size)
                omega) (by rw [hib]; exact e1)
            rw [hib] at hnx
            have hmap : (acc ++ [t]).map toS = acc.map toS ++ [(⟨t.kind, v, t.text, b, (posOf s b).1, b - x7'⟩ : S121)] := by
              rw [List.map_append, List.map_cons, List.map_nil, toS, np1, np2, np3, hv1, hcol]
            rw [hmap] at hnx
            obtain ⟨k1, hq⟩ := Ev.bind (g := fun k t163 => hoarstoneref08_Raw.l0 k s (acc.map toS ++ [(⟨t.kind, v, t.text, b, (posOf s b).1, b - x7'⟩ : S121)]) (posOf s b).1 x7' b t163) hpast hnx
            refine ⟨k0 + k1 + n + 2, fun k hk2 => ?_⟩
            obtain ⟨j, rfl⟩ : ∃ j, k = j + n + 1 + 1 := ⟨k - n - 2, by omega⟩
            show hoarstoneref08_Raw.l0 (j + n + 1 + 1) s (acc.map toS) x6 x7 i b = _
            rw [hopen _ (by omega), if_neg hm, ab_neg (by omega), if_neg (by omega), e2, if_pos (by rw [List.length_map]; omega), w64 (by omega) (by omega), w64 (x := b - x7') (by omega) (by omega)]
            exact hq j (by omega)

theorem Raw_f (s : ByteArray) (hs : s.size ≤ 140737488351000) : Ev (fun k => hoarstoneref08_Raw.f k s) ((rawF s).1.map toS, (rawF s).2.1, (rawF s).2.2) := by
  by_cases hbig : (65536 : Int) < s.size
  · have hr : rawF s = ([], 0, 11) := by unfold rawF; rw [if_pos hbig]
    rw [hr]
    refine Ev.of 0 (fun k => ?_)
    unfold hoarstoneref08_Raw.f
    rw [if_pos (by omega)]
    rfl
  · have hr : rawF s = rawAll s := by unfold rawF; rw [if_neg hbig]
    rw [hr]
    have h1 := raw_ev s hs (s.size + 2) 0 [] 0 0 0 (by omega) (by omega) (by omega) (by simp) (lay_ge s (s.size + 1) 0) rfl
    have h2 := Ev.bind (g := fun k t150 => hoarstoneref08_Raw.l0 k s ([] : List S121) 0 0 0 t150) (past_f s (by omega) 0 (by omega) (by omega)) h1
    refine h2.step 0 (fun k => ?_)
    unfold hoarstoneref08_Raw.f
    rw [if_neg (by omega), Nat.add_zero]

end Go.Proofs.YtfnhjdehlikbaaaGreatDoor.Lx

/- What the reference's Path (47) answers; equal rows of tokens (29). -/
namespace Go.Proofs.YtfnhjdehlikbaaaGreatDoor.Lx
open Go.RowKit Go.Proofs.YtfnhjdehlikbaaaGreatDoorW.PrintWords Go.Proofs.YtfnhjdehlikbaaaGreatDoorW.PrintLast Go.Proofs.YtfnhjdehlikbaaaGreatDoor.PLexTokens

/-- What Path makes of what is cut. -/
def isPath (s : ByteArray) (k : Int) (t : ByteArray) (wrong : Int) (is : Bool) : Bool := is && (t.size == s.size && (decide (wrong < 0) && (k == 1 || k == 4)))

set_option maxRecDepth 100000 in
set_option maxHeartbeats 8000000 in
theorem isPath_at (k : Nat) (s : ByteArray) (r1 r2 : Int) (r3 : ByteArray) (r4 r5 r6 r7 : Int) (r8 : Bool) (w : World) (h : hoarstoneref08_cut.f k s 0 = some (r1, r2, r3, r4, r5, r6, r7, r8)) :
    Calls Tryz.prog 47 #[.string s] w fun e w' => e = .returned (.bool (isPath s r1 r3 r7 r8)) ∧ Below w.heap.size w w' := by
  have HC := Aside0.mk (fun W => hoarstoneref08_cut.calls k s 0 r1 r2 r3 r4 r5 r6 r7 r8 W h)
  clear h
  unfold isPath
  cases r8 with
  | false =>
    go_enter Tryz.func47, Tryz.ntmps47
    go_wp2_with (go_at_call 81; (with_reducible refine (HC.out _).mono ?_); rintro e w1 ⟨rfl, hb⟩; have HB := Aside0.mk hb; clear hb)
    repeat (go_quiet (fail); try go_wp2)
    go_ret
    exact ⟨rfl, HB.out.alloc HB.out.size _⟩
  | true =>
    by_cases c1 : (r3.size : Int) = (s.size : Int)
    · have c1b : ((r3.size : Int) == (s.size : Int)) = true := beq_iff_eq.mpr c1
      have c1n : (r3.size == s.size) = true := by rw [Int.ofNat_inj.1 c1]; exact beq_self_eq_true _
      clear c1
      by_cases c2 : r7 < 0
      · have c2b : decide (r7 < 0) = true := decide_eq_true c2
        clear c2
        by_cases c3 : r1 = 1
        · have c3b : (r1 == 1) = true := beq_iff_eq.mpr c3
          clear c3
          go_enter Tryz.func47, Tryz.ntmps47
          go_wp2_with (go_at_call 81; (with_reducible refine (HC.out _).mono ?_); rintro e w1 ⟨rfl, hb⟩; have HB := Aside0.mk hb; clear hb)
          repeat (go_quiet (fail); try go_wp2)
          go_ret
          exact ⟨by simp [*], HB.out.alloc HB.out.size _⟩
        · have c3b : (r1 == 1) = false := beq_eq_false_iff_ne.mpr c3
          clear c3
          go_enter Tryz.func47, Tryz.ntmps47
          go_wp2_with (go_at_call 81; (with_reducible refine (HC.out _).mono ?_); rintro e w1 ⟨rfl, hb⟩; have HB := Aside0.mk hb; clear hb)
          repeat (go_quiet (fail); try go_wp2)
          go_ret
          exact ⟨by simp [*], HB.out.alloc HB.out.size _⟩
      · have c2b : decide (r7 < 0) = false := decide_eq_false c2
        clear c2
        go_enter Tryz.func47, Tryz.ntmps47
        go_wp2_with (go_at_call 81; (with_reducible refine (HC.out _).mono ?_); rintro e w1 ⟨rfl, hb⟩; have HB := Aside0.mk hb; clear hb)
        repeat (go_quiet (fail); try go_wp2)
        go_ret
        exact ⟨by simp [*], HB.out.alloc HB.out.size _⟩
    · have c1b : ((r3.size : Int) == (s.size : Int)) = false := beq_eq_false_iff_ne.mpr c1
      have c1n : (r3.size == s.size) = false := beq_eq_false_iff_ne.mpr (fun h => c1 (by rw [h]))
      clear c1
      go_enter Tryz.func47, Tryz.ntmps47
      go_wp2_with (go_at_call 81; (with_reducible refine (HC.out _).mono ?_); rintro e w1 ⟨rfl, hb⟩; have HB := Aside0.mk hb; clear hb)
      repeat (go_quiet (fail); try go_wp2)
      go_ret
      exact ⟨by simp [*], HB.out.alloc HB.out.size _⟩

def pathOf (s : ByteArray) (k : Nat) : Option Bool := (hoarstoneref08_cut.f k s 0).bind fun b => if b.2.2.2.2.2.2.2 = true then (if (b.2.2.1.size : Int) = (s.size : Int) then (if b.2.2.2.2.2.2.1 < 0 then (if b.1 = 1 then (some true) else (some (b.1 == 4))) else (some false)) else (some false)) else (some false)
theorem Path_f (s : ByteArray) (hs : s.size ≤ 140737488351000) : Ev (pathOf s) (pathF s) := by
  by_cases h0 : s.size = 0
  · have hp : pathF s = false := by
      unfold pathF
      rw [toList_nil.2 h0]
      rfl
    rw [hp]
    refine Ev.of 0 (fun k => ?_)
    unfold pathOf hoarstoneref08_cut.f
    rw [if_pos (by omega)]
    rfl
  · have hpos : (0 : Int) < s.size := by omega
    have hnil : decide (s.toList = []) = false := decide_eq_false (fun h => h0 (toList_nil.1 h))
    have hc := cut_f s hs 0 (by omega) hpos
    have hk := kind_eq s 0
    by_cases hkz : kindOf (bt s 0) = 0
    · rw [if_pos hkz] at hc
      have hl : isLetter (bt s 0) = false := by
        cases hh : isLetter (bt s 0) with
        | false => rfl
        | true => rw [hh, if_pos rfl] at hk; omega
      have hp : pathF s = false := by unfold pathF; rw [hl]; simp
      rw [hp]
      refine (Ev.bind (g := fun _ b => if b.2.2.2.2.2.2.2 = true then (if (b.2.2.1.size : Int) = (s.size : Int) then (if b.2.2.2.2.2.2.1 < 0 then (if b.1 = 1 then (some true) else (some (b.1 == 4))) else (some false)) else (some false)) else (some false)) hc (Ev.of 0 (fun k => ?_))).step 0 (fun k => rfl)
      rfl
    · rw [if_neg hkz] at hc
      obtain ⟨v, _, hev⟩ := hc
      refine (Ev.bind (g := fun _ b => if b.2.2.2.2.2.2.2 = true then (if (b.2.2.1.size : Int) = (s.size : Int) then (if b.2.2.2.2.2.2.1 < 0 then (if b.1 = 1 then (some true) else (some (b.1 == 4))) else (some false)) else (some false)) else (some false)) hev (Ev.of 0 (fun k => ?_))).step 0 (fun k => rfl)
      simp only
      rw [if_pos trivial]
      by_cases hl : isLetter (bt s 0) = true
      · rw [if_pos hl] at hk
        rw [hk]
        obtain ⟨b1, b2, b3, b4⟩ := words_le s 0 (by omega) (by omega)
        have hn : nextOf s 0 1 = nextWord s 0 := rfl
        rw [hn]
        unfold nextWord pathF
        simp only
        rw [extract_size _ _ _ (by omega) (by omega), hnil, hl]
        generalize (words s 0) = W at *
        obtain ⟨n, bad⟩ := W
        simp only at *
        by_cases h1 : n = (s.size : Int)
        · rw [if_pos (by omega), decide_eq_true h1]
          unfold ab
          by_cases h2 : bad < 0
          · rw [if_pos h2, if_pos (by omega), decide_eq_true h2]
            split
            · split <;> rfl
            · split <;> simp_all
          · rw [if_neg h2, if_neg (by omega), decide_eq_false h2]
            rfl
        · rw [if_neg (by omega), decide_eq_false h1]
          rfl
      · have hp : pathF s = false := by unfold pathF; rw [show isLetter (bt s 0) = false by simpa using hl]; simp
        rw [hp]
        rw [if_neg hl] at hk
        have hkk : (nextOf s 0 (kindOf (bt s 0))).1.kind = 2 ∨ (nextOf s 0 (kindOf (bt s 0))).1.kind = 3 := by
          split at hk
          · rw [hk]; left; rfl
          · split at hk
            · rw [hk]; right; rfl
            · exact absurd hk hkz
        generalize (nextOf s 0 (kindOf (bt s 0))) = N at hkk
        split
        · split
          · rcases hkk with h | h <;> rw [h] <;> rfl
          · rfl
        · rfl

theorem isPath_f (s : ByteArray) (hs : s.size ≤ 140737488351000) : ∃ k r1 r2 r3 r4 r5 r6 r7 r8, hoarstoneref08_cut.f k s 0 = some (r1, r2, r3, r4, r5, r6, r7, r8) ∧ isPath s r1 r3 r7 r8 = pathF s := by
  obtain ⟨k, hk⟩ := Path_f s hs
  have h := hk k (Nat.le_refl _)
  unfold pathOf at h
  obtain ⟨⟨r1, r2, r3, r4, r5, r6, r7, r8⟩, hc, h2⟩ := Option.bind_eq_some_iff.mp h
  refine ⟨k, r1, r2, r3, r4, r5, r6, r7, r8, hc, ?_⟩
  simp only at h2
  unfold isPath
  cases r8 with
  | false => simpa using h2
  | true =>
    by_cases c1 : (r3.size : Int) = (s.size : Int)
    · rw [if_pos rfl, if_pos c1] at h2
      have c1n : (r3.size == s.size) = true := by rw [Int.ofNat_inj.1 c1]; exact beq_self_eq_true _
      rw [c1n]
      by_cases c2 : r7 < 0
      · rw [if_pos c2] at h2
        rw [decide_eq_true c2]
        by_cases c3 : r1 = 1
        · rw [if_pos c3] at h2
          subst c3
          simpa using h2
        · rw [if_neg c3] at h2
          rw [show (r1 == 1) = false from beq_eq_false_iff_ne.mpr c3]
          simpa using h2
      · rw [if_neg c2] at h2
        rw [decide_eq_false c2]
        simpa using h2
    · rw [if_pos rfl, if_neg c1] at h2
      have c1n : (r3.size == s.size) = false := beq_eq_false_iff_ne.mpr (fun h => c1 (by rw [h]))
      rw [c1n]
      simpa using h2
theorem refPath_any (s : ByteArray) (w : World) (hs : s.size ≤ 140737488351000) : Calls Tryz.prog 47 #[.string s] w fun e w' => e = .returned (.bool (pathF s)) ∧ Below w.heap.size w w' := by
  obtain ⟨k, r1, r2, r3, r4, r5, r6, r7, r8, hc, hp⟩ := isPath_f s hs
  rw [← hp]
  exact isPath_at k s r1 r2 r3 r4 r5 r6 r7 r8 w hc


def to54 (t : Tok) : S54 := ⟨t.kind, t.num, t.text, t.at_, t.line, t.col⟩
attribute [local go_sem high] eqA54
set_option maxRecDepth 100000 in
set_option maxHeartbeats 8000000 in
theorem equal54_any (l : List S54) (A0 A1 : Option Addr) (c0 c1 : Nat) (w : World) (hl : l.length ≤ 1000000) (h0 : Kd.C k54 w A0 l.length l) (hc0 : l.length ≤ c0) (h1 : Kd.C k54 w A1 l.length l) (hc1 : l.length ≤ c1) :
    Calls Tryz.prog 29 #[.slice A0 l.length c0, .slice A1 l.length c1] w fun e w' => e = .returned (.bool true) ∧ Drawn0 w w' := by
  have hu54 := Tryz.underlying54
  have HR0 := Aside0.mk h0
  have HC0 := Aside0.mk hc0
  have HR1 := Aside0.mk h1
  have HC1 := Aside0.mk hc1
  clear h0 h1 hc0 hc1
  have c3b0 : ((l.length : Int) == (l.length : Int)) = true := beq_self_eq_true _
  have c3b1 : ((l.length : Int) != (l.length : Int)) = false := bne_self_eq_false _
  go_enter Tryz.func29, Tryz.ntmps29
  go_wp2
  repeat (go_quiet (fail); try go_wp2)
  go_loopg [13] l.length (fun f t13 wr => ∃ (i : Int), t13 = .int .i64 i ∧ 0 ≤ i ∧ i + f = l.length ∧ Drawn0 w wr)
  case atStart => exact ⟨0, rfl, by omega, by omega, by repeat (first | exact Drawn0.refl _ | apply Drawn0.step)⟩
  case round =>
    obtain ⟨i, rfl, p145, hif, ⟨m1, rfl⟩⟩ := hrel
    by_cases hi : i < (l.length : Int)
    · cases gk with
      | zero => omega
      | succ f =>
        obtain ⟨ad0, e0, hx0, hx1, hx2, hx3, hx4, hx5⟩ := at_T54 HR0.out i p145 hi
        cases e0
        obtain ⟨ad1, e1, hy0, hy1, hy2, hy3, hy4, hy5⟩ := at_T54 HR1.out i p145 hi
        cases e1
        have c8b0 : (!(((rd_T54 l i).f0) == ((rd_T54 l i).f0)) || (!(((rd_T54 l i).f1) == ((rd_T54 l i).f1)) || (!((((rd_T54 l i).f2).toList) == (((rd_T54 l i).f2).toList)) || (!(((rd_T54 l i).f3) == ((rd_T54 l i).f3)) || (!(((rd_T54 l i).f4) == ((rd_T54 l i).f4)) || (!(((rd_T54 l i).f5) == ((rd_T54 l i).f5)))))))) = false := by simp
        have hib : decide (i < (l.length : Int)) = true := decide_eq_true hi
        have p1 : decide (0 ≤ i) = true := decide_eq_true p145
        have hw : wrap64 (i + 1) = i + 1 := w64 (by omega) (by omega)
        replace p145 := eq_true p145
        have hi2 := Aside0.mk hi
        replace hi := eq_true hi
        go_wp2
        repeat (go_quiet (fail); try go_wp2)
        go_roundg f
        case measure => omega
        case rel => exact ⟨i + 1, by (first | rfl | (rw [← hw]; rfl) | (simp [hw]; done)), by (have := of_eq_true p145; omega), by omega, by repeat (first | exact Drawn0.refl _ | apply Drawn0.step)⟩
    · have hib : decide (i < (l.length : Int)) = false := decide_eq_false hi
      go_wp2
      repeat (go_quiet (fail); try go_wp2)
      go_ret
      exact ⟨rfl, by repeat (first | exact Drawn0.refl _ | apply Drawn0.step)⟩
theorem k54_of_kTok {w : World} {A : Option Addr} {n : Nat} {l : List Tok} (h : Kd.C kTok w A n l) : Kd.C k54 w A n (l.map to54) := by
  obtain ⟨h1, h2, h3⟩ := h
  refine ⟨by rw [List.length_map]; exact h1, h2, fun hn => ?_⟩
  obtain ⟨ad, hA, hc⟩ := h3 hn
  refine ⟨ad, hA, fun j p hp => ?_⟩
  rw [List.getElem?_map] at hp
  cases hj : l[j]? with
  | none => rw [hj] at hp; simp at hp
  | some t =>
    rw [hj] at hp
    simp at hp
    subst hp
    obtain ⟨c, hl, hk, hcc⟩ := hc j t hj
    exact ⟨c, hl, hk, hcc⟩

end Go.Proofs.YtfnhjdehlikbaaaGreatDoor.Lx

