import Derived.Test.YtfnhjdehlikbaaaGreatDoorM4
import Derived.Shelf.Strings.Repeat
set_option linter.unusedVariables false
set_option linter.unusedSimpArgs false
namespace Go.Proofs.YtfnhjdehlikbaaaGreatDoor.Lx
open Go.RowKit Go.Proofs.YtfnhjdehlikbaaaGreatDoorW.PrintWords
def aaZ (n : Nat) : ByteArray := ⟨(Lib.repeatL [97, 32] n).toArray⟩
theorem aa_len (n : Nat) : (aaZ n).size = 2 * n := by
  show (Lib.repeatL [97, 32] n).toArray.size = _
  rw [List.size_toArray, Lib.repeatL_length]
  simp
  omega
theorem aa_drop : ∀ (i n : Nat), i ≤ n → (aaZ n).data.toList.drop (2 * i) = Lib.repeatL [97, 32] (n - i) := by
  intro i n h
  show ((Lib.repeatL [97, 32] n).toArray.toList).drop (2 * i) = _
  rw [List.toList_toArray]
  obtain ⟨d, rfl⟩ := Nat.exists_eq_add_of_le h
  rw [Lib.repeatL_add, show i + d - i = d by omega]
  have hl : (Lib.repeatL [97, 32] i : List UInt8).length = 2 * i := by rw [Lib.repeatL_length]; simp; omega
  rw [← hl, List.drop_left]
theorem aa_at {i n : Nat} (h : i < n) : (aaZ n).data.toList.drop (2 * i) = 97 :: 32 :: Lib.repeatL [97, 32] (n - i - 1) := by
  rw [aa_drop i n (by omega), show n - i = (n - i - 1) + 1 by omega]
  rfl
theorem aa_bt0 {i n : Nat} (h : i < n) : bt (aaZ n) (2 * i : Nat) = 97 := by
  rw [bt_list _ _ (by omega), Int.toNat_natCast]
  have h9 : (aaZ n).data.toList[2 * i]? = ((aaZ n).data.toList.drop (2 * i))[0]? := by rw [List.getElem?_drop]; rfl
  rw [h9, aa_at h]
  rfl
theorem aa_bt1 {i n : Nat} (h : i < n) : bt (aaZ n) (2 * i + 1 : Nat) = 32 := by
  rw [bt_list _ _ (by omega), Int.toNat_natCast]
  have h9 : (aaZ n).data.toList[2 * i + 1]? = ((aaZ n).data.toList.drop (2 * i))[1]? := by rw [List.getElem?_drop]
  rw [h9, aa_at h]
  rfl
theorem aa_dash {i n : Nat} (h : i < n) : dash (aaZ n) (2 * i : Nat) = false := by
  unfold dash
  rw [aa_bt0 h]
  simp
theorem aa_stay {i n f : Nat} (h : i < n) : layL (aaZ n) (f + 1) (2 * i : Nat) = (2 * i : Nat) := by
  rw [layL]
  split
  · rw [aa_bt0 h, aa_dash h, if_neg (by omega), if_neg (by simp)]
  · rfl
theorem aa_end (n f : Nat) : layL (aaZ n) f (2 * n : Nat) = (2 * n : Nat) := by
  cases f with
  | zero => rfl
  | succ f => rw [layL, if_neg (by rw [aa_len]; omega)]
def aaPos : Nat → Int
  | 0 => 0
  | i + 1 => ((2 * i + 1 : Nat) : Int)
theorem aa_lay {i n : Nat} (h : i ≤ n) (hn : 0 < n) : lay (aaZ n) (aaPos i) = (2 * i : Nat) := by
  unfold lay
  rw [aa_len]
  cases i with
  | zero => exact aa_stay (i := 0) hn
  | succ i =>
    rw [aaPos, layL, if_pos (by rw [aa_len]; omega), if_pos (.inl (aa_bt1 (by omega))), show ((2 * i + 1 : Nat) : Int) + 1 = (2 * (i + 1) : Nat) by omega]
    by_cases hi : i + 1 < n
    · rw [show 2 * n = (2 * n - 1) + 1 by omega]
      exact aa_stay hi
    · rw [show i + 1 = n by omega]
      exact aa_end n _
theorem aa_run {i n : Nat} (h : i < n) : run isLetter (aaZ n) (2 * i) = 1 := by
  unfold run
  rw [aa_at h]
  rfl
theorem aa_words {i n : Nat} (h : i < n) : words (aaZ n) (2 * i : Nat) = (1, -1) := by
  unfold words
  rw [wordsL]
  simp only [Int.add_zero, Int.toNat_natCast]
  rw [aa_run h]
  have hm : more (aaZ n) ((2 * i : Nat) + (0 + ((1 : Nat) : Int))) = false := by
    unfold more
    rw [show ((2 * i : Nat) : Int) + (0 + ((1 : Nat) : Int)) = (2 * i + 1 : Nat) by omega, aa_bt1 h]
    simp
  rw [hm]
  rfl
theorem aa_noline : ∀ (k : Nat) (c : Int), adv (Lib.repeatL [97, 32] k) (0, c) = (0, c + 2 * k) := by
  intro k
  induction k with
  | zero => intro c; simp [Lib.repeatL, adv]
  | succ k ih =>
    intro c
    show adv (97 :: 32 :: Lib.repeatL [97, 32] k) (0, c) = _
    simp only [adv]
    rw [if_neg (by decide), if_neg (by decide), ih]
    simp
    omega
theorem aa_pos {i n : Nat} (h : i ≤ n) : posOf (aaZ n) (2 * i : Nat) = ((0 : Int), ((2 * i : Nat) : Int)) := by
  unfold posOf
  rw [Int.toNat_natCast]
  have h9 : (aaZ n).data.toList.take (2 * i) = Lib.repeatL [97, 32] i := by
    show ((Lib.repeatL [97, 32] n).toArray.toList).take (2 * i) = _
    rw [List.toList_toArray]
    have h8 := Lib.repeatL_take [97, 32] n i h
    rw [show i * ([97, 32] : List UInt8).length = 2 * i by simp; omega] at h8
    exact h8
  rw [h9, aa_noline]
  simp
def aaTok (i : Nat) : Tok := ⟨1, 0, ⟨#[97]⟩, (2 * i : Nat), 0, (2 * i : Nat)⟩
theorem aa_next {i n : Nat} (h : i < n) : nextOf (aaZ n) (2 * i : Nat) 1 = (aaTok i, -1) := by
  have ht : (aaZ n).extract (2 * i) (2 * i + 1) = ⟨#[97]⟩ := by
    apply ByteArray.ext
    apply Array.toList_inj.1
    rw [Lib.extract_data, aa_at h, show 2 * i + 1 - 2 * i = 1 by omega]
    rfl
  unfold nextOf
  rw [if_pos rfl]
  unfold nextWord
  simp only
  rw [aa_words h, aa_pos (by omega)]
  simp only [Int.toNat_natCast]
  rw [show ((2 * i : Nat) + (1 : Int)).toNat = 2 * i + 1 by omega]
  have hk : isKw ((aaZ n).extract (2 * i) (2 * i + 1)) = false := by rw [ht]; decide +kernel
  simp only [hk, ht]
  rfl
def aaToks : Nat → Nat → List Tok
  | _, 0 => []
  | i, k + 1 => aaTok i :: aaToks (i + 1) k
theorem aaToks_len : ∀ (k i : Nat), (aaToks i k).length = k := by
  intro k
  induction k with
  | zero => intro i; rfl
  | succ k ih => intro i; rw [aaToks, List.length_cons, ih]
theorem aaToks_get : ∀ (k i j : Nat), j < k → (aaToks i k)[j]? = some (aaTok (i + j)) := by
  intro k
  induction k with
  | zero => intro i j h; omega
  | succ k ih =>
    intro i j h
    cases j with
    | zero => rfl
    | succ j => rw [aaToks, List.getElem?_cons_succ, ih (i + 1) j (by omega), show i + 1 + j = i + (j + 1) by omega]
theorem kind97 : kindOf 97 = 1 := by decide +kernel
theorem aa_step {n i f : Nat} (h : i < n) (acc : List Tok) (ha : acc.length = i) (h4 : i < 4000) : rawL (aaZ n) (f + 1) (aaPos i) acc = rawL (aaZ n) f (aaPos (i + 1)) (acc ++ [aaTok i]) := by
  rw [rawL, aa_lay (by omega) (by omega), if_neg (by rw [aa_len]; omega), aa_bt0 h, kind97, if_neg (by decide), if_neg (by rw [ha]; omega), aa_next h]
  simp only
  rw [if_neg (by decide)]
  rfl
theorem aa_raw {n : Nat} (hn : 0 < n) (h4 : n ≤ 4000) : ∀ (k i f : Nat) (acc : List Tok), i + k = n → acc.length = i → k < f → rawL (aaZ n) f (aaPos i) acc = (acc ++ aaToks i k, 0, 0) := by
  intro k
  induction k with
  | zero =>
    intro i f acc hi ha hf
    obtain ⟨f, rfl⟩ : ∃ g, f = g + 1 := ⟨f - 1, by omega⟩
    rw [rawL, aa_lay (by omega) hn, if_pos (by rw [aa_len, show i = n by omega]), aaToks, List.append_nil]
  | succ k ih =>
    intro i f acc hi ha hf
    obtain ⟨f, rfl⟩ : ∃ g, f = g + 1 := ⟨f - 1, by omega⟩
    rw [aa_step (by omega) acc ha (by omega), ih (i + 1) f _ (by omega) (by rw [List.length_append, ha]; rfl) (by omega), aaToks, List.append_assoc]
    rfl
theorem aa_many {n : Nat} (h4 : 4000 < n) : ∀ (k i f : Nat) (acc : List Tok), i + k = 4000 → acc.length = i → k < f → rawL (aaZ n) f (aaPos i) acc = ([], 8000, 2) := by
  intro k
  induction k with
  | zero =>
    intro i f acc hi ha hf
    obtain ⟨f, rfl⟩ : ∃ g, f = g + 1 := ⟨f - 1, by omega⟩
    rw [rawL, aa_lay (by omega) (by omega), if_neg (by rw [aa_len]; omega), aa_bt0 (by omega), kind97, if_neg (by decide), if_pos (by rw [ha]; omega), show i = 4000 by omega]
    rfl
  | succ k ih =>
    intro i f acc hi ha hf
    obtain ⟨f, rfl⟩ : ∃ g, f = g + 1 := ⟨f - 1, by omega⟩
    rw [aa_step (by omega) acc ha (by omega), ih (i + 1) f _ (by omega) (by rw [List.length_append, ha]; rfl) (by omega)]
theorem aa_rawF {n : Nat} (hn : 0 < n) (h4 : n ≤ 4000) : rawF (aaZ n) = (aaToks 0 n, 0, 0) := by
  unfold rawF rawAll
  rw [if_neg (by rw [aa_len]; omega), aa_len]
  exact aa_raw hn h4 n 0 _ [] (by omega) rfl (by omega)
theorem aa_rawF1 : rawF (aaZ 4001) = ([], 8000, 2) := by
  unfold rawF rawAll
  rw [if_neg (by rw [aa_len]; omega), aa_len]
  exact aa_many (n := 4001) (by omega) 4000 0 _ [] (by omega) rfl (by omega)
theorem aa_one (t nx : Tok) (m : Bool) (c : Int) (out : List Tok) (ht : t.kind = 1) : oneF t nx false m [⟨true, c, ⟨#[]⟩⟩] out = (([⟨true, c, ⟨#[]⟩⟩], out ++ [t]), false, 0) := by
  have hs : t.sign = false := by unfold Tok.sign; rw [ht]; rfl
  unfold oneF
  simp only [badA, oneA, badB, oneB, closing, oneC, opening, withs, hs, Bool.false_and, Bool.false_eq_true, if_false]
  rfl
theorem aa_layG {n : Nat} (c : Int) : ∀ (k i f : Nat) (op : Bool) (out : List Tok), i + k = n → k < f → (op = false → 1 ≤ i) → ∃ out', layG (aaToks 0 n) f i op [⟨true, c, ⟨#[]⟩⟩] out = (([⟨true, c, ⟨#[]⟩⟩], out'), 0, 0) := by
  intro k
  induction k with
  | zero =>
    intro i f op out hi hf _
    obtain ⟨f, rfl⟩ : ∃ g, f = g + 1 := ⟨f - 1, by omega⟩
    exact ⟨out, layG_end (by rw [aaToks_len]; omega) _ _ _ _⟩
  | succ k ih =>
    intro i f op out hi hf hop
    obtain ⟨f, rfl⟩ : ∃ g, f = g + 1 := ⟨f - 1, by omega⟩
    have hb : bgT (aaToks 0 n) i op (aaTok (0 + i)) = false := by
      unfold bgT
      cases op with
      | true => rfl
      | false =>
        have h1 := hop rfl
        rw [aaToks_get n 0 (i - 1) (by omega)]
        have h0 : (i == 0) = false := by simp; omega
        rw [h0]
        rfl
    rw [layG_step (aaToks_get n 0 i (by omega)), hb, aa_one _ _ _ _ _ rfl]
    simp only [if_true]
    exact ih (i + 1) f false _ (by omega) (by omega) (fun _ => by omega)
theorem aa_layF {n : Nat} (hn : 0 < n) : (layF (aaToks 0 n)).2.2 = 0 := by
  rw [layF_fin]
  obtain ⟨out', h⟩ := aa_layG (n := n) (((aaToks 0 n)[0]?.getD (endT (aaToks 0 n))).col) n 0 ((aaToks 0 n).length + 1) true [markF 5 ((aaToks 0 n)[0]?.getD (endT (aaToks 0 n)))] (by omega) (by rw [aaToks_len]; omega) (fun h => by cases h)
  rw [h]
  unfold finL
  rw [if_pos rfl]
  have hs : ∀ (t : Tok) (c : Int) (o : List Tok), (shutF anyL t [⟨true, c, ⟨#[]⟩⟩] o).1.isEmpty = true := fun t c o => rfl
  rw [if_pos (hs _ _ _)]
theorem aa_good {n : Nat} (hn : 0 < n) (h4 : n ≤ 4000) : ∃ m a m2 b, rawF (aaZ n) = (m, a, 0) ∧ tokF (aaZ n) = (m2, b, 0) := by
  refine ⟨_, _, (layF (aaToks 0 n)).1, 0, aa_rawF hn h4, ?_⟩
  unfold tokF
  rw [aa_rawF hn h4]
  simp only
  rw [if_neg (by simp), if_pos (aa_layF hn)]
theorem aa_bad : ∃ m m2, rawF (aaZ 4001) = (m, 8000, 2) ∧ tokF (aaZ 4001) = (m2, 8000, 2) := by
  refine ⟨_, [], aa_rawF1, ?_⟩
  unfold tokF
  rw [aa_rawF1]
  rfl
end Go.Proofs.YtfnhjdehlikbaaaGreatDoor.Lx
