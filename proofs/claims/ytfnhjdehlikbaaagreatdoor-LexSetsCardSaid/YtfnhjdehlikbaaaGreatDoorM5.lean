import Derived.Test.YtfnhjdehlikbaaaGreatDoorM4
import Derived.Test.YtfnhjdehlikbaaaGreatDoorM2
import Derived.Test.YtfnhjdehlikbaaaGreatDoorM0
import Derived.Test.YtfnhjdehlikbaaaGreatDoorM1
set_option linter.unusedVariables false
set_option linter.unusedSimpArgs false
/- The reference's small functions by hand: letter 115, digit 117, has 83, keywords 84, Keyword 45, signs 119, past 80. -/
namespace Go.Proofs.YtfnhjdehlikbaaaGreatDoor.Lx
open Go.RowKit Go.Proofs.YtfnhjdehlikbaaaGreatDoorW.PrintWords

theorem beq_toList (a b : ByteArray) : (a.toList == b.toList) = (a == b) := by
  cases a with
  | mk ad =>
    cases b with
    | mk bd =>
      have e : ((⟨ad⟩ : ByteArray) == ⟨bd⟩) = (ad == bd) := rfl
      rw [e, ByteArray.toList_eq, ByteArray.toList_eq, Bool.eq_iff_iff, beq_iff_eq, beq_iff_eq]
      exact Array.toList_inj
theorem run_cons (p : Int → Bool) (s : ByteArray) (i : Nat) (h : i < s.size) : run p s i = if p (bt s i) = true then run p s (i + 1) + 1 else 0 := by
  unfold run
  rw [List.drop_eq_getElem_cons (by rw [len_data]; exact h), List.takeWhile_cons]
  have e : (((s.data.toList[i]'(by rw [len_data]; exact h)).toNat : Nat) : Int) = bt s i := by
    rw [bt_list s i (by omega)]
    simp [h]
  rw [e]
  split <;> simp

end Go.Proofs.YtfnhjdehlikbaaaGreatDoor.Lx

/- The reference's worded (116) by hand. -/
namespace Go.Proofs.YtfnhjdehlikbaaaGreatDoor.Lx
open Go.RowKit Go.Proofs.YtfnhjdehlikbaaaGreatDoorW.PrintWords

theorem run_end (p : Int → Bool) (s : ByteArray) (i : Nat) (h : s.size ≤ i) : run p s i = 0 := by
  unfold run
  rw [List.drop_eq_nil_of_le (by rw [len_data]; exact h)]
  rfl
/-- Where a token is cut wrong, as an index of the text; below 0 if it is not. -/
def ab (a b : Int) : Int := if b < 0 then -1 else a + b
/-- In the midst of a path. -/
structure WAt (s : ByteArray) (a : Int) (W : Int × Int) (f : Nat) (n bad many row e wrong : Int) : Prop where
  n0 : 0 ≤ n
  row0 : 0 ≤ row
  e_ : e = a + n + row
  le : e ≤ s.size
  run_ : (run isLetter s (a + n).toNat : Int) = row + run isLetter s e.toNat
  wr : wrong = ab a (if 10 < row ∧ bad < 0 then n + 10 else bad)
  fuel : (s.size : Int) - (a + n) < f
  bad1 : -1 ≤ bad
  many0 : 0 ≤ many
  many1 : many + (s.size - (a + n)) ≤ 140737488351232
  goal : wordsL s a f n bad many = W

theorem WAt.fin {s : ByteArray} {a : Int} {W : Int × Int} {f : Nat} {n bad many row e wrong : Int} (h0 : 0 ≤ a) (h : WAt s a W f n bad many row e wrong) (hl : e = s.size ∨ isLetter (bt s e) = false) (hm : more s e = false) :
    e = a + W.1 ∧ wrong = ab a W.2 := by
  obtain ⟨h1, h2, h3, h4, h5, h6, h7, h8, h9, h10, h11⟩ := h
  have hr : run isLetter s e.toNat = 0 := by
    by_cases he : e = s.size
    · exact run_end _ _ _ (by omega)
    · rw [run_cons isLetter s e.toNat (by omega), show ((e.toNat : Nat) : Int) = e by omega, if_neg (by rcases hl with h | h; exact absurd h he; rw [h]; decide)]
  cases f with
  | zero => omega
  | succ f =>
    simp only [wordsL] at h11
    rw [h5, hr, show ((0 : Nat) : Int) = 0 from rfl, Int.add_zero, show a + (n + row) = e by omega, if_neg (by rw [hm]; decide)] at h11
    rw [← h11]
    exact ⟨by simp only; omega, h6⟩

end Go.Proofs.YtfnhjdehlikbaaaGreatDoor.Lx

/- The reference's cut (81) by hand. -/
namespace Go.Proofs.YtfnhjdehlikbaaaGreatDoor.Lx
open Go.RowKit Go.Proofs.YtfnhjdehlikbaaaGreatDoorW.PrintWords

/-- A sign stands at an index. -/
theorem prefix_iff (s x : ByteArray) (a : Int) (h0 : 0 ≤ a) (ha : a ≤ s.size) : hasPrefix (s.extract a.toNat s.size) x = true ↔ a + x.size ≤ s.size ∧ (s.extract a.toNat (a + x.size).toNat).toList = x.toList := by
  unfold hasPrefix
  rw [List.isPrefixOf_iff_prefix, List.prefix_iff_eq_take, drop_extract, len_data, ByteArray.toList_eq, ByteArray.toList_eq]
  have hp : (s.extract a.toNat (a + (x.size : Int)).toNat).data.toList = (s.data.toList.drop a.toNat).take x.size := part_extract s a x.size h0
  rw [hp]
  constructor
  · intro h
    refine ⟨?_, h.symm⟩
    have := congrArg List.length h
    rw [len_data, List.length_take, List.length_drop, len_data] at this
    omega
  · exact fun h => h.2.symm

theorem kind_fin : ∀ n : Fin 256, kindOf (n.val : Int) = if isLetter n.val = true then 1 else if isDigit n.val = true then 2 else if isSign 18 n.val = true then 3 else 0 := by decide +kernel
theorem kind_eq (s : ByteArray) (a : Int) : kindOf (bt s a) = if isLetter (bt s a) = true then 1 else if isDigit (bt s a) = true then 2 else if isSign 18 (bt s a) = true then 3 else 0 := by
  obtain ⟨h0, h1⟩ := bt_range s a
  have := kind_fin ⟨(bt s a).toNat, by omega⟩
  simp only [show (((bt s a).toNat : Nat) : Int) = bt s a by omega] at this
  exact this
theorem sign_fin : ∀ n : Fin 256, isSign 18 n.val = true → (sgs.any fun x => x.data.toList == [UInt8.ofNat n.val]) = true := by decide +kernel

theorem first_byte (s : ByteArray) (a : Int) (h0 : 0 ≤ a) (ha : a < s.size) : ∃ l, (s.extract a.toNat s.size).data.toList = UInt8.ofNat (bt s a).toNat :: l := by
  rw [drop_extract, drop_cons s a.toNat (by omega)]
  refine ⟨s.data.toList.drop (a.toNat + 1), ?_⟩
  have := bt_at s a (by omega)
  rw [← this]
  simp

theorem sign_some (s : ByteArray) (a : Int) (h0 : 0 ≤ a) (ha : a < s.size) (h : isSign 18 (bt s a) = true) : ∃ x, sgs.find? (fun x => hasPrefix (s.extract a.toNat s.size) x) = some x := by
  obtain ⟨b0, b1⟩ := bt_range s a
  have hf := sign_fin ⟨(bt s a).toNat, by omega⟩ (by simpa only [show (((bt s a).toNat : Nat) : Int) = bt s a by omega] using h)
  rw [List.any_eq_true] at hf
  obtain ⟨x, hx, hxe⟩ := hf
  obtain ⟨l, hl⟩ := first_byte s a h0 ha
  rw [← Option.isSome_iff_exists, List.find?_isSome]
  refine ⟨x, hx, ?_⟩
  unfold hasPrefix
  simp only [beq_iff_eq] at hxe
  rw [hxe, hl]
  simp
end Go.Proofs.YtfnhjdehlikbaaaGreatDoor.Lx

/- The reference's cut (81) at a sign, and whole. -/
namespace Go.Proofs.YtfnhjdehlikbaaaGreatDoor.Lx
open Go.RowKit Go.Proofs.YtfnhjdehlikbaaaGreatDoorW.PrintWords

structure SgAt (w W : World) : Prop where
  res : W.heap[w.heap.size]? = some (.cells #[.int .i64 0, .int .i64 0, .string ⟨#[]⟩, .int .i64 0, .int .i64 0, .int .i64 0] 121)
  sg : W.heap[w.heap.size + 1]? = some (.cells (sgs.map Value.string).toArray 9)
  below : Below w.heap.size w W
theorem SgAt.step {w W W' : World} (h : SgAt w W) (hb : Below W.heap.size W W') : SgAt w W' :=
  ⟨(hb.block _ (heap_lt h.res)).trans h.res, (hb.block _ (heap_lt h.sg)).trans h.sg, h.below.trans (hb.mono h.below.size)⟩
theorem bdrewN (w : World) (n : Nat) : Below w.heap.size w (w.drewN n) := ⟨rfl, rfl, rfl, Nat.le_refl _, fun _ _ => rfl⟩

end Go.Proofs.YtfnhjdehlikbaaaGreatDoor.Lx

/- The reference's Raw (40) by hand; its cut at the end of a text. -/
namespace Go.Proofs.YtfnhjdehlikbaaaGreatDoor.Lx
open Go.RowKit Go.Proofs.YtfnhjdehlikbaaaGreatDoorW.PrintWords

theorem layL_le (s : ByteArray) : ∀ (f : Nat) (a : Int), 0 ≤ a → a ≤ s.size → layL s f a ≤ s.size := by
  intro f
  induction f with
  | zero => intro a _ h; exact h
  | succ f ih =>
    intro a h0 h
    simp only [layL]
    split
    · split
      · exact ih (a + 1) (by omega) (by omega)
      · split
        · have := run_le (fun c => c != 10) s a.toNat (by omega)
          exact ih _ (by omega) (by omega)
        · exact h
    · exact h

theorem next_place (s : ByteArray) (b k : Int) : (nextOf s b k).1.at_ = b ∧ (nextOf s b k).1.line = (posOf s b).1 ∧ (nextOf s b k).1.col = (posOf s b).2 := by
  unfold nextOf
  split
  · exact ⟨rfl, rfl, rfl⟩
  · split
    · exact ⟨rfl, rfl, rfl⟩
    · exact ⟨rfl, rfl, rfl⟩


structure RawAt (w : World) (l : List Tok) (v : Value) (W : World) : Prop where
  own : W.ownsRow w.heap.size 121 6 v l.length (flat l)
  below : Below w.heap.size w W

theorem RawAt.step {w W W' : World} {l : List Tok} {v : Value} (h : RawAt w l v W) (hb : Below W.heap.size W W') : RawAt w l v W' :=
  ⟨own_move h.own (fun k hk => hb.block k (own_lt h.own k hk)), h.below.trans (hb.mono h.below.size)⟩
end Go.Proofs.YtfnhjdehlikbaaaGreatDoor.Lx

/- What is raw is right for Lay: each raw token has a Text and a Num of its Kind, and stands behind the one ahead of it. -/
namespace Go.Proofs.YtfnhjdehlikbaaaGreatDoor.Lx
open Go.RowKit Go.Proofs.YtfnhjdehlikbaaaGreatDoorW.PrintWords

/-! Places. -/
theorem adv_mono (l : List UInt8) : ∀ p : Int × Int, p.1 ≤ (adv l p).1 ∧ ((adv l p).1 = p.1 → (adv l p).2 = p.2 + l.length) := by
  induction l with
  | nil => intro p; simp [adv]
  | cons b l ih =>
    intro p
    simp only [adv]
    split
    · obtain ⟨h1, h2⟩ := ih (p.1 + 1, 0)
      simp only at h1
      exact ⟨by omega, fun h => by omega⟩
    · obtain ⟨h1, h2⟩ := ih (p.1, p.2 + 1)
      simp only at h1 h2
      refine ⟨h1, fun h => ?_⟩
      rw [h2 h, List.length_cons]
      omega
theorem posOf_mono (s : ByteArray) (a b : Int) (h0 : 0 ≤ a) (hab : a ≤ b) (hb : b ≤ s.size) : (posOf s a).1 ≤ (posOf s b).1 ∧ ((posOf s b).1 = (posOf s a).1 → (posOf s b).2 = (posOf s a).2 + (b - a)) := by
  obtain ⟨n, rfl⟩ : ∃ n : Nat, b = a + n := ⟨(b - a).toNat, by omega⟩
  have h := posOf_add s a n h0
  have hl := part_length s a n h0 hb
  obtain ⟨h1, h2⟩ := adv_mono (part s a n) (posOf s a)
  rw [h] at h1 h2
  refine ⟨h1, fun e => ?_⟩
  rw [h2 e, hl]
  omega

/-! Parts of a text. -/
theorem takeWhile_take {α : Type} (p : α → Bool) : ∀ (l : List α) (j : Nat), ((l.take j).takeWhile p).length = min j (l.takeWhile p).length := by
  intro l
  induction l with
  | nil => intro j; simp
  | cons x l ih =>
    intro j
    cases j with
    | zero => simp
    | succ j =>
      rw [List.take_succ_cons, List.takeWhile_cons, List.takeWhile_cons]
      split
      · rw [List.length_cons, ih, List.length_cons]
        omega
      · simp
theorem run_part (p : Int → Bool) (s : ByteArray) (a n m : Nat) : run p (s.extract a (a + n)) m = min (n - m) (run p s (a + m)) := by
  unfold run
  rw [Lib.extract_data, List.drop_take, List.drop_drop, show a + n - a - m = n - m by omega, takeWhile_take]
theorem bt_part (s : ByteArray) (a n : Nat) (i : Int) (h0 : 0 ≤ i) (hi : i < n) : bt (s.extract a (a + n)) i = bt s (a + i) := by
  rw [bt_list _ _ h0, bt_list _ _ (by omega), Lib.extract_data, List.getElem?_take_of_lt (by omega), List.getElem?_drop, show a + i.toNat = ((a : Int) + i).toNat by omega]
theorem size_part (s : ByteArray) (a n : Nat) (h : a + n ≤ s.size) : (s.extract a (a + n)).size = n := by
  rw [extract_size _ _ _ (by omega) h]
  omega

/-- What words says of a text it says of the part that it has passed. -/
theorem words_part (s : ByteArray) (a : Nat) (n : Nat) (b : Int) (han : a + n ≤ s.size) : ∀ (f f2 m : Nat) (bad many : Int), a + m ≤ s.size → s.size < a + m + f → n < m + f2 → wordsL s a f m bad many = ((n : Int), b) →
    wordsL (s.extract a (a + n)) 0 f2 m bad many = ((n : Int), b) := by
  intro f
  induction f with
  | zero => intro f2 m bad many h1 h2; omega
  | succ f ih =>
    intro f2 m bad many h1 h2 h3 h
    have hge := wordsL_ge s a (f + 1) m bad many
    rw [h] at hge
    simp only at hge
    cases f2 with
    | zero => omega
    | succ f2 =>
      have hX := size_part s a n han
      simp only [wordsL] at h ⊢
      have e0 : ((a : Int) + (m : Int)).toNat = a + m := by omega
      have e1 : ((0 : Int) + (m : Int)).toNat = m := by omega
      rw [e0] at h
      rw [e1, run_part]
      have hrl := run_le isLetter s (a + m) h1
      obtain ⟨k, hk⟩ : ∃ k, run isLetter s (a + m) = k := ⟨_, rfl⟩
      rw [hk] at h hrl ⊢
      by_cases hm : more s ((a : Int) + ((m : Int) + (k : Int))) = true
      · rw [if_pos hm] at h
        unfold more at hm
        simp only [Bool.and_eq_true, decide_eq_true_eq, beq_iff_eq] at hm
        obtain ⟨m1, m2, m3⟩ := hm
        -- the next word has a letter
        have hn2 : (m : Int) + k + 2 ≤ n := by
          cases f with
          | zero => omega
          | succ f =>
            simp only [wordsL] at h
            have e2 : ((a : Int) + ((m : Int) + (k : Int) + 1)).toNat = a + m + k + 1 := by omega
            rw [e2] at h
            have hp : 1 ≤ run isLetter s (a + m + k + 1) := by
              rw [run_cons _ _ _ (by omega), if_pos (by rw [show (((a + m + k + 1 : Nat)) : Int) = (a : Int) + ((m : Int) + (k : Int)) + 1 by omega]; exact m3)]
              omega
            generalize run isLetter s (a + m + k + 1) = k2 at h hp
            split at h
            · have hg2 := wordsL_ge s a f ((m : Int) + k + 1 + k2 + 1) (if 5 < many + 1 + 1 ∧ (if 10 < (k2 : Int) ∧ (if 5 < many + 1 ∧ (if 10 < (k : Int) ∧ bad < 0 then (m : Int) + 10 else bad) < 0 then (m : Int) + k else if 10 < (k : Int) ∧ bad < 0 then (m : Int) + 10 else bad) < 0 then (m : Int) + k + 1 + 10 else if 5 < many + 1 ∧ (if 10 < (k : Int) ∧ bad < 0 then (m : Int) + 10 else bad) < 0 then (m : Int) + k else if 10 < (k : Int) ∧ bad < 0 then (m : Int) + 10 else bad) < 0 then (m : Int) + k + 1 + k2 else if 10 < (k2 : Int) ∧ (if 5 < many + 1 ∧ (if 10 < (k : Int) ∧ bad < 0 then (m : Int) + 10 else bad) < 0 then (m : Int) + k else if 10 < (k : Int) ∧ bad < 0 then (m : Int) + 10 else bad) < 0 then (m : Int) + k + 1 + 10 else if 5 < many + 1 ∧ (if 10 < (k : Int) ∧ bad < 0 then (m : Int) + 10 else bad) < 0 then (m : Int) + k else if 10 < (k : Int) ∧ bad < 0 then (m : Int) + 10 else bad) (many + 1 + 1)
              rw [h] at hg2
              simp only at hg2
              omega
            · have := congrArg Prod.fst h
              simp only at this
              omega
        have hk2 : min (n - m) k = k := by omega
        rw [hk2]
        have hmx : more (s.extract a (a + n)) ((0 : Int) + ((m : Int) + (k : Int))) = true := by
          unfold more
          rw [hX, bt_part s a n _ (by omega) (by omega), bt_part s a n _ (by omega) (by omega)]
          simp only [Bool.and_eq_true, decide_eq_true_eq, beq_iff_eq]
          refine ⟨by omega, ?_, ?_⟩
          · rw [show (a : Int) + (0 + ((m : Int) + (k : Int))) = (a : Int) + ((m : Int) + (k : Int)) by omega]; exact m2
          · rw [show (a : Int) + (0 + ((m : Int) + (k : Int)) + 1) = (a : Int) + ((m : Int) + (k : Int)) + 1 by omega]; exact m3
        rw [if_pos hmx]
        have e3 : (m : Int) + (k : Int) + 1 = ((m + k + 1 : Nat) : Int) := by omega
        rw [e3] at h ⊢
        exact ih f2 (m + k + 1) _ _ (by omega) (by omega) (by omega) h
      · rw [if_neg hm] at h
        have h4 := congrArg Prod.fst h
        have h5 := congrArg Prod.snd h
        simp only at h4 h5
        have hk2 : min (n - m) k = k := by omega
        rw [hk2]
        have hmx : more (s.extract a (a + n)) ((0 : Int) + ((m : Int) + (k : Int))) = false := by
          unfold more
          rw [hX, decide_eq_false (by omega)]
          rfl
        rw [if_neg (by rw [hmx]; simp)]
        exact Prod.ext h4 h5

theorem pathF_part (s : ByteArray) (a : Int) (h0 : 0 ≤ a) (ha : a < s.size) (hl : isLetter (bt s a) = true) (hb : (words s a).2 < 0) : pathF (s.extract a.toNat (a + (words s a).1).toNat) = true := by
  obtain ⟨b1, b2, b3, b4⟩ := words_le s a h0 (by omega)
  have hp := words_pos s a h0 ha hl
  obtain ⟨x, hx⟩ : ∃ x : Nat, a = (x : Int) := ⟨a.toNat, by omega⟩
  subst hx
  obtain ⟨W, hW⟩ : ∃ W, words s (x : Int) = W := ⟨_, rfl⟩
  rw [hW] at b1 b2 b3 b4 hp hb ⊢
  obtain ⟨n0, bad⟩ := W
  obtain ⟨n, rfl⟩ : ∃ n : Nat, n0 = (n : Int) := ⟨n0.toNat, by simp only at b1; omega⟩
  simp only at b1 b2 hp hb ⊢
  have e : ((x : Int) + (n : Int)).toNat = x + n := by omega
  rw [e, Int.toNat_natCast]
  have hX := size_part s x n (by omega)
  have hw : words (s.extract x (x + n)) 0 = ((n : Int), bad) := by
    unfold words
    rw [hX]
    exact words_part s x n bad (by omega) (s.size + 1) (n + 1) 0 (-1) 1 (by omega) (by omega) (by omega) hW
  unfold pathF
  rw [hw, hX]
  simp only
  have hne : decide ((s.extract x (x + n)).toList = []) = false := decide_eq_false (fun h => by have := toList_nil.1 h; omega)
  rw [hne, bt_part s x n 0 (by omega) (by omega), Int.add_zero, hl, decide_eq_true hb]
  simp

end Go.Proofs.YtfnhjdehlikbaaaGreatDoor.Lx

/- What is raw is right for Lay: for every text. -/
namespace Go.Proofs.YtfnhjdehlikbaaaGreatDoor.Lx
open Go.RowKit Go.Proofs.YtfnhjdehlikbaaaGreatDoorW.PrintWords

theorem decV_pow : ∀ (l : List UInt8) (v : Nat), v * 10 ^ l.length ≤ decV l v := by
  intro l
  induction l with
  | nil => intro v; simp [decV]
  | cons b l ih =>
    intro v
    have := ih (10 * v + (b.toNat - 48))
    show v * 10 ^ (l.length + 1) ≤ decV l (10 * v + (b.toNat - 48))
    refine Nat.le_trans ?_ this
    rw [Nat.pow_succ, show v * (10 ^ l.length * 10) = (10 * v) * 10 ^ l.length by rw [Nat.mul_comm (10 ^ l.length) 10, ← Nat.mul_assoc, Nat.mul_comm v 10]]
    exact Nat.mul_le_mul_right _ (by omega)

theorem number_size {s : ByteArray} (hd : run isDigit s 0 = s.size) (hz : s.size ≤ 1 ∨ bt s 0 ≠ 48) (hn : number s ≤ 1073741824) : s.size ≤ 20 := by
  rcases hz with hz | hz
  · omega
  · have hg := digs_of_run hd
    have he := numL_decV s.data.toList 0 hg hn
    have hnum : number s = (decV s.data.toList 0 : Nat) := he
    have hl := len_data s
    cases hc : s.data.toList with
    | nil => rw [hc] at hl; simp at hl; omega
    | cons b l =>
      rw [hc] at hnum hl hg
      have hb := hg b (by simp)
      have hb48 : b.toNat ≠ 48 := by
        intro h48
        apply hz
        rw [bt_list s 0 (by omega), hc]
        show (b.toNat : Int) = 48
        omega
      have hp := decV_pow l (10 * 0 + (b.toNat - 48))
      have e : decV (b :: l) 0 = decV l (10 * 0 + (b.toNat - 48)) := rfl
      rw [e] at hnum
      have h1 : 10 ^ l.length ≤ decV l (10 * 0 + (b.toNat - 48)) := by
        refine Nat.le_trans ?_ hp
        exact Nat.le_mul_of_pos_left _ (by omega)
      have h2 : 10 ^ l.length ≤ 1073741824 := by omega
      have h3 : l.length ≤ 9 := by
        rcases Nat.lt_or_ge l.length 10 with h | h
        · omega
        · have := Nat.pow_le_pow_right (n := 10) (by omega) h
          omega
      simp only [List.length_cons] at hl
      omega

theorem next_wf (s : ByteArray) (a : Int) (h0 : 0 ≤ a) (ha : a < s.size) (hk : kindOf (bt s a) ≠ 0) (hb : (nextOf s a (kindOf (bt s a))).2 < 0) : WfT (nextOf s a (kindOf (bt s a))).1 := by
  rcases kindOf_cases (bt s a) with e | e | e | e
  · exact absurd e hk
  · rw [e] at hb ⊢
    have hl := kindOf_letter e
    simp only [nextOf, nextWord, if_true] at hb ⊢
    by_cases hkw : isKw (s.extract a.toNat (a + (words s a).1).toNat) = true
    · rw [if_pos hkw]
      exact .inr (.inr (.inr ⟨rfl, rfl, hkw⟩))
    · rw [if_neg hkw]
      exact .inl ⟨rfl, rfl, pathF_part s a h0 ha hl hb, by simpa using hkw⟩
  · rw [e] at hb ⊢
    have hdg := kindOf_digit e
    have hr := run_le isDigit s a.toNat (by omega)
    have hr1 := run_pos isDigit s a h0 ha hdg
    simp only [nextOf, nextNum, if_true, show ¬ (2 : Int) = 1 by omega, if_false] at hb ⊢
    obtain ⟨k, hkk⟩ : ∃ k, run isDigit s a.toNat = k := ⟨_, rfl⟩
    rw [hkk] at hb hr hr1 ⊢
    have e2 : (a + (k : Int)).toNat = a.toNat + k := by omega
    rw [e2] at hb ⊢
    have hX := size_part s a.toNat k (by omega)
    have hrun : run isDigit (s.extract a.toNat (a.toNat + k)) 0 = (s.extract a.toNat (a.toNat + k)).size := by
      rw [run_part, hX, Nat.sub_zero, Nat.add_zero, hkk]
      omega
    have hb0 : bt (s.extract a.toNat (a.toNat + k)) 0 = bt s a := by
      rw [bt_part s a.toNat k 0 (by omega) (by omega)]
      congr 1
      omega
    split at hb
    · omega
    · rename_i hnb
      split at hb
      · omega
      · rename_i hz
        have hz2 : (s.extract a.toNat (a.toNat + k)).size ≤ 1 ∨ bt (s.extract a.toNat (a.toNat + k)) 0 ≠ 48 := by
          rw [hX, hb0]
          by_cases h1 : k ≤ 1
          · exact .inl h1
          · exact .inr (fun h => hz ⟨by omega, h⟩)
        have hsz := number_size hrun hz2 (by omega)
        have hi := itoa_number hrun (by rw [hX]; omega) (by rcases hz2 with h | h; exact .inl (by rw [hX] at h ⊢; omega); exact .inr h) (by omega)
        have hnn := number_le _ (allDigits_of_run hrun)
        exact .inr (.inl ⟨rfl, hsz, hrun, by rw [hX]; omega, rfl, by simp only; omega, by simp only; omega, hi⟩)
  · have hk3 := kind_eq s a
    rw [e] at hb ⊢ hk3
    have hsg : isSign 18 (bt s a) = true := by
      split at hk3
      · omega
      · split at hk3
        · omega
        · split at hk3
          · assumption
          · omega
    obtain ⟨x, hx⟩ := sign_some s a h0 ha hsg
    have hlo : longest (s.extract a.toNat s.size) = x := by unfold longest; rw [hx]; rfl
    have hp := (prefix_iff s x a h0 (by omega)).1 (List.find?_some hx)
    have hxe : s.extract a.toNat (a + (x.size : Int)).toNat = x := by
      have h2 := hp.2
      rw [ByteArray.toList_eq, ByteArray.toList_eq] at h2
      exact ByteArray.ext (Array.toList_inj.1 h2)
    refine .inr (.inr (.inl ⟨?_, ?_, ?_⟩))
    · rfl
    · rfl
    · simp only [nextOf, nextSign, show ¬ (3 : Int) = 1 by omega, show ¬ (3 : Int) = 2 by omega, if_false, hlo, hxe]
      unfold among
      rw [List.any_eq_true]
      exact ⟨x, List.mem_of_find?_eq_some hx, by simp⟩

/-- Raw tokens so far, ahead of an index. -/
structure RawSo (s : ByteArray) (a : Int) (acc : List Tok) : Prop where
  good : GoodL acc
  last : ∀ b, acc.getLast? = some b → 0 ≤ b.at_ ∧ b.at_ + b.text.size ≤ a ∧ b.line = (posOf s b.at_).1 ∧ b.col = (posOf s b.at_).2

theorem goodL_snoc {acc : List Tok} {t : Tok} (h : GoodL acc) (ht : GoodT (acc.getLast?.getD tokZ) t) : GoodL (acc ++ [t]) := by
  intro i x hx
  rcases Nat.lt_trichotomy i acc.length with hi | hi | hi
  · rw [List.getElem?_append_left hi] at hx
    have := h i x hx
    split
    · rename_i h0; rw [if_pos h0] at this; exact this
    · rename_i h0
      rw [if_neg h0] at this
      rw [List.getElem?_append_left (by omega)]
      exact this
  · subst hi
    rw [List.getElem?_append_right (Nat.le_refl _)] at hx
    simp at hx
    subst hx
    split
    · rename_i h0
      have : acc = [] := List.eq_nil_of_length_eq_zero h0
      rw [this] at ht
      exact ht
    · rename_i h0
      rw [List.getElem?_append_left (by omega), ← List.getLast?_eq_getElem?]
      exact ht
  · rw [List.getElem?_append_right (by omega)] at hx
    rw [List.getElem?_eq_none (by simp; omega)] at hx
    cases hx

theorem raw_good (s : ByteArray) (hs : s.size ≤ 65536) : ∀ (f : Nat) (a : Int) (acc : List Tok), 0 ≤ a → a ≤ s.size → RawSo s a acc → GoodL (rawL s f a acc).1 := by
  have hnil : GoodL [] := fun i t h => by simp at h
  intro f
  induction f with
  | zero => intro a acc _ _ h; exact h.good
  | succ f ih =>
    intro a acc h0 h1 h
    have hge : a ≤ lay s a := lay_ge s _ a
    have hle : lay s a ≤ s.size := layL_le s _ a h0 h1
    simp only [rawL]
    split
    · exact h.good
    · rename_i hend
      generalize lay s a = b at *
      split
      · exact hnil
      · rename_i hk
        split
        · exact hnil
        · split
          · exact hnil
          · rename_i hb
            have hbb : b < s.size := by omega
            have hwf := next_wf s b (by omega) hbb hk (by omega)
            have hnp := next_pos s b (by omega) hbb hk (by omega)
            obtain ⟨nf1, nf2, nf3⟩ := next_fits s b (kindOf (bt s b)) (by omega) hbb
            obtain ⟨np1, np2, np3⟩ := next_place s b (kindOf (bt s b))
            generalize (nextOf s b (kindOf (bt s b))).1 = t at *
            obtain ⟨p1, p2, p3, p4⟩ := posOf_le s b
            refine ih (b + t.text.size) (acc ++ [t]) (by omega) (by omega) ⟨goodL_snoc h.good ?_, ?_⟩
            · refine ⟨hwf, by omega, by omega, by omega, by omega, by omega, by omega, by omega, ?_, ?_, ?_⟩
              · cases hl : acc.getLast? with
                | none => simp only [Option.getD_none, tokZ]; omega
                | some c =>
                  obtain ⟨l1, l2, l3, l4⟩ := h.last c hl
                  simp only [Option.getD_some]
                  have := (posOf_mono s c.at_ b l1 (by omega) hle).1
                  omega
              · cases hl : acc.getLast? with
                | none =>
                  simp only [Option.getD_none, tokZ]
                  intro _
                  show (0 : Int) + ((0 : Nat) : Int) ≤ t.col
                  omega
                | some c =>
                  obtain ⟨l1, l2, l3, l4⟩ := h.last c hl
                  simp only [Option.getD_some]
                  intro he
                  have := (posOf_mono s c.at_ b l1 (by omega) hle).2 (by omega)
                  omega
              · cases hl : acc.getLast? with
                | none =>
                  simp only [Option.getD_none, tokZ]
                  show (0 : Int) + ((0 : Nat) : Int) ≤ t.at_
                  omega
                | some c =>
                  obtain ⟨l1, l2, l3, l4⟩ := h.last c hl
                  simp only [Option.getD_some]
                  omega
            · intro c hc
              simp at hc
              subst hc
              rw [np1]
              exact ⟨by omega, Int.le_refl _, np2, np3⟩

theorem rawL_len4 (s : ByteArray) : ∀ (f : Nat) (a : Int) (acc : List Tok), acc.length ≤ 4000 → (rawL s f a acc).1.length ≤ 4000 := by
  intro f
  induction f with
  | zero => intro a acc h; exact h
  | succ f ih =>
    intro a acc h
    simp only [rawL]
    split
    · exact h
    · split
      · simp
      · split
        · simp
        · split
          · simp
          · refine ih _ _ ?_
            simp
            omega
theorem rawOk_all (s : ByteArray) : RawOk s := by
  refine ⟨?_, ?_⟩
  · unfold rawF
    split
    · exact fun i t h => by simp at h
    · exact raw_good s (by omega) _ 0 [] (by omega) (by omega) ⟨fun i t h => by simp at h, fun b h => by simp at h⟩
  · unfold rawF
    split
    · simp
    · exact rawL_len4 s _ _ _ (by simp)

end Go.Proofs.YtfnhjdehlikbaaaGreatDoor.Lx

