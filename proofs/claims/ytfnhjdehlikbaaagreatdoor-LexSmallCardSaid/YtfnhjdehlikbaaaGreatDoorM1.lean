import Derived.Test.YtfnhjdehlikbaaaGreatDoorM0
import Derived.RangeFuncNested
import Derived.RangeFuncBound
import Derived.RangeFuncCalls
import Derived.RangeFuncLeaves
import Derived.Shelf.RegionOpen
import Derived.OwnWalkIn
import Derived.TacticsInMore
import Derived.Maps.OwnIn
import Derived.Maps.AppendAt
import Derived.Laws.CopyRow
import Derived.OwnWalk
import Derived.Shelf.Spec.SlicesInsert
import Derived.Deep.RegionLaw
import Derived.Deep.AppendLies
set_option linter.unusedVariables false
set_option linter.unusedSimpArgs false
namespace Go.Proofs.YtfnhjdehlikbaaaGreatDoor.Lx
open Go.RowKit Go.Proofs.YtfnhjdehlikbaaaGreatDoorW.PrintWords
def nextSign (s : ByteArray) (a : Int) : Tok × Int :=
  let n : Int := (longest (s.extract a.toNat s.size)).size
  (⟨3, 0, s.extract a.toNat (a + n).toNat, a, (posOf s a).1, (posOf s a).2⟩, if n = 0 then 0 else -1)
theorem longest_le (x : ByteArray) : (longest x).size ≤ x.size := by
  unfold longest
  cases h : sgs.find? (fun y => hasPrefix x y) with
  | none => exact Nat.zero_le _
  | some y =>
    have h1 := List.find?_some h
    have := List.IsPrefix.length_le (List.isPrefixOf_iff_prefix.1 h1)
    rw [len_data, len_data] at this
    exact this
set_option maxRecDepth 100000 in
set_option maxHeartbeats 8000000 in
theorem next_sign (g : Nat) (a : Int) (s : ByteArray) (w : World) (hs : s.size ≤ 140737488351232) (h0 : 0 ≤ a) (han : a < s.size) (hsrc : SrcAt w g a s) :
    Calls Tryz.prog 99 #[.pointer (some ⟨g, 0, none⟩), .int .i64 3] w fun e w' => e = .returned (.tuple #[.agg (nextSign s a).1.cells, .int .i64 (nextSign s a).2]) ∧ Below w.heap.size w w' := by
  have hr := longest_le (s.extract a.toNat s.size)
  have hxz := extract_size s a.toNat s.size (by omega) (Nat.le_refl _)
  have hlg := fun W => longest_any (s.extract a.toNat s.size) W (by omega)
  obtain ⟨R, hR⟩ : ∃ R, nextSign s a = R := ⟨_, rfl⟩
  rw [hR]
  unfold nextSign at hR
  simp only at hR
  generalize longest (s.extract a.toNat s.size) = L at hr hlg hR
  obtain ⟨n, hn⟩ : ∃ n, L.size = n := ⟨_, rfl⟩
  rw [hn] at hR hr
  have HN := Aside0.mk hn
  obtain ⟨p1, p2, p3, p4⟩ := posOf_le s a
  unfold SrcAt at hsrc
  generalize posOf s a = Q at hsrc p1 p2 p3 p4 hR
  obtain ⟨line, col⟩ := Q
  simp only at hsrc p1 p2 p3 p4 hR
  have HRR := Aside0.mk hR; clear hR
  have c0 : w.cell? ⟨g, 0, none⟩ = some (.int .i64 a) := cell_of hsrc 0
  have c1 : w.cell? ⟨g, 1, none⟩ = some (.int .i64 line) := cell_of hsrc 1
  have c2 : w.cell? ⟨g, 2, none⟩ = some (.int .i64 col) := cell_of hsrc 2
  have c3 : w.cell? ⟨g, 3, none⟩ = some (.string s) := cell_of hsrc 3
  have hgl := heap_lt hsrc
  have han' : a ≤ (s.size : Int) := by omega
  have HLG := Aside0.mk hlg; clear hlg
  have HS := Aside0.mk hsrc; clear hsrc
  go_enter Tryz.func99, Tryz.ntmps99
  go_wp2
  go_cut [6] (fun t6 wc => t6 = .pointer (some ⟨w.heap.size + 1, 0, none⟩) ∧ Aside0 (At54 w g a line col s (tokN 3 0 a line col) wc))
  case first =>
    go_region
    go_wp2
    go_meet
    case rel =>
      refine ⟨rfl, ⟨?_, ?_, ?_, ?_⟩⟩
      · exact heap_alloc (heap_new w _) _
      · exact heap_new' (w.alloc _) _ _ (by simp)
      · exact heap_alloc (heap_alloc HS.out _) _
      · exact (((Below.refl _ _).alloc (Nat.le_refl _) _).alloc (by simp) _).drew
  case rest =>
    obtain ⟨rfl, HG⟩ := hcut
    clear c0 c1 c2 c3
    obtain ⟨d0, d3⟩ := HG.out.cells
    go_wp2
    go_cut [7] (fun t7 wk => t7 = .int .i64 n ∧ Aside0 (At54 w g a line col s (tokN 3 0 a line col) wk))
    case first =>
      have HG1 := Aside0.mk HG.out.drew
      go_region_held3 (fun W => W.cell? ⟨g, 0, none⟩ = some (.int .i64 a) ∧ W.cell? ⟨g, 3, none⟩ = some (.string s)) (go_keep) (first | (go_at_call 135; refine (HLG.out _).mono ?_; rintro e w2 ⟨rfl, hb⟩; have hA : Aside0 (At54 w g a line col s (tokN 3 0 a line col) w2) := ⟨At54.step (Aside0.out (by assumption)) hb⟩; obtain ⟨k0, k3⟩ := hA.out.cells))
      go_wp2
      go_meet
      case rel => exact ⟨rfl, by assumption⟩
    case rest =>
      clear d0 d3 HG
      obtain ⟨rfl, HG⟩ := hcut
      have hne : g ≠ w.heap.size + 1 := by omega
      have hne2 : w.heap.size ≠ w.heap.size + 1 := by omega
      have hsum : IntKind.i64.wrap (a + n) = a + n := IntWalk.i64_in _ (by omega)
      have hle : a ≤ a + n := by omega
      have hge : 0 ≤ a + n := by omega
      have hub : a + n ≤ s.size := by omega
      have f0 : wc.cell? ⟨g, 0, none⟩ = some (.int .i64 a) := cell_of HG.out.src 0
      have f3 : wc.cell? ⟨g, 3, none⟩ = some (.string s) := cell_of HG.out.src 3
      have t0 : wc.cell? ⟨w.heap.size + 1, 0, none⟩ = some (.int .i64 3) := cell_of HG.out.tok 0
      have t1 : wc.cell? ⟨w.heap.size + 1, 1, none⟩ = some (.int .i64 0) := cell_of HG.out.tok 1
      have t2 : wc.cell? ⟨w.heap.size + 1, 2, none⟩ = some (.string ⟨#[]⟩) := cell_of HG.out.tok 2
      have t3 : wc.cell? ⟨w.heap.size + 1, 3, none⟩ = some (.int .i64 a) := cell_of HG.out.tok 3
      have t4 : wc.cell? ⟨w.heap.size + 1, 4, none⟩ = some (.int .i64 line) := cell_of HG.out.tok 4
      have t5 : wc.cell? ⟨w.heap.size + 1, 5, none⟩ = some (.int .i64 col) := cell_of HG.out.tok 5
      have tf := fun i => free_of HG.out.tok i
      have rf := fun i => free_of HG.out.res i
      have r0 : wc.cell? ⟨w.heap.size, 0, none⟩ = some (.int .i64 0) := cell_of HG.out.res 0
      have r1 : wc.cell? ⟨w.heap.size, 1, none⟩ = some (.int .i64 0) := cell_of HG.out.res 1
      have r2 : wc.cell? ⟨w.heap.size, 2, none⟩ = some (.string ⟨#[]⟩) := cell_of HG.out.res 2
      have r3 : wc.cell? ⟨w.heap.size, 3, none⟩ = some (.int .i64 0) := cell_of HG.out.res 3
      have r4 : wc.cell? ⟨w.heap.size, 4, none⟩ = some (.int .i64 0) := cell_of HG.out.res 4
      have r5 : wc.cell? ⟨w.heap.size, 5, none⟩ = some (.int .i64 0) := cell_of HG.out.res 5
      by_cases hz : (n : Int) = 0
      · have hzb : ((n : Int) == 0) = true := beq_iff_eq.2 hz
        have HC : Aside0 ((if (n : Int) = 0 then (0 : Int) else -1) = 0) := ⟨if_pos hz⟩
        clear hz
        go_wp2
        go_region
        go_wp2
        refine bodyPost_ret (results_list (rs := [.cell 4 54, .tmp 5]) rfl (by simp) (.cell w.heap.size 54 _ (0, 0) _ rfl (drew_heap (set6 ((heap_set_other (by simp) _).trans HG.out.res) _ _ _ _ _ _)) Tryz.underlying54 rfl (size54 _ _ _ _ _ _) (.tmp .nil))) rfl ⟨?_, ?_⟩
        · rw [← HRR.out, HC.out]; rfl
        · exact (below_set6 (HG.out.below.setCell (Nat.le_succ _) _) (Nat.le_refl _) _ _ _ _ _ _).drew
      · have hzb : ((n : Int) == 0) = false := beq_eq_false_iff_ne.2 hz
        have HC : Aside0 ((if (n : Int) = 0 then (0 : Int) else -1) = -1) := ⟨if_neg hz⟩
        clear hz
        go_wp2
        go_region
        go_wp2
        refine bodyPost_ret (results_list (rs := [.cell 4 54, .tmp 5]) rfl (by simp) (.cell w.heap.size 54 _ (0, 0) _ rfl (drew_heap (set6 ((heap_set_other (by simp) _).trans HG.out.res) _ _ _ _ _ _)) Tryz.underlying54 rfl (size54 _ _ _ _ _ _) (.tmp .nil))) rfl ⟨?_, ?_⟩
        · rw [← HRR.out, HC.out]; rfl
        · exact (below_set6 (HG.out.below.setCell (Nat.le_succ _) _) (Nat.le_refl _) _ _ _ _ _ _).drew
end Go.Proofs.YtfnhjdehlikbaaaGreatDoor.Lx
namespace Go.Proofs.YtfnhjdehlikbaaaGreatDoor.Lx
open Go.RowKit Go.Proofs.YtfnhjdehlikbaaaGreatDoorW.PrintWords
def nextOf (s : ByteArray) (a k : Int) : Tok × Int := if k = 1 then nextWord s a else if k = 2 then nextNum s a else nextSign s a
theorem next_any (g : Nat) (a k : Int) (s : ByteArray) (w : World) (hs : s.size ≤ 140737488351232) (h0 : 0 ≤ a) (han : a < s.size) (hk : k = 1 ∨ k = 2 ∨ k = 3) (hsrc : SrcAt w g a s) :
    Calls Tryz.prog 99 #[.pointer (some ⟨g, 0, none⟩), .int .i64 k] w fun e w' => e = .returned (.tuple #[.agg (nextOf s a k).1.cells, .int .i64 (nextOf s a k).2]) ∧ Below w.heap.size w w' := by
  rcases hk with rfl | rfl | rfl
  · exact next_word g a s w hs h0 (by omega) hsrc
  · exact next_num g a s w hs h0 han hsrc
  · exact next_sign g a s w hs h0 han hsrc
theorem kindOf_cases (c : Int) : kindOf c = 0 ∨ kindOf c = 1 ∨ kindOf c = 2 ∨ kindOf c = 3 := by
  unfold kindOf kind1
  split
  · simp
  · split
    · simp
    · split <;> simp
theorem kindOf_letter {c : Int} (h : kindOf c = 1) : isLetter c = true := by
  unfold kindOf kind1 at h
  split at h
  · omega
  · split at h
    · assumption
    · split at h <;> omega
theorem kindOf_digit {c : Int} (h : kindOf c = 2) : isDigit c = true := by
  unfold kindOf kind1 at h
  split at h
  · omega
  · split at h
    · omega
    · split at h
      · assumption
      · omega
theorem run_pos (p : Int → Bool) (s : ByteArray) (a : Int) (h0 : 0 ≤ a) (h : a < s.size) (hp : p (bt s a) = true) : 1 ≤ run p s a.toNat := by
  have hlt : a.toNat + 0 < s.size := by omega
  have := (run_step p s a.toNat 0 hlt (Nat.zero_le _)).1 (by
    have e := bt_get s a (by omega)
    simp only [Nat.add_zero]
    rw [e]; exact hp)
  omega
theorem wordsL_ge (s : ByteArray) (a : Int) : ∀ (f : Nat) (n bad many : Int), n ≤ (wordsL s a f n bad many).1 := by
  intro f
  induction f with
  | zero => intro n bad many; exact Int.le_refl _
  | succ f ih =>
    intro n bad many
    simp only [wordsL]
    generalize (run isLetter s (a + n).toNat) = k
    split
    · have := ih (n + k + 1) (if 5 < many + 1 ∧ (if 10 < (k : Int) ∧ bad < 0 then n + 10 else bad) < 0 then n + k else if 10 < (k : Int) ∧ bad < 0 then n + 10 else bad) (many + 1)
      omega
    · simp only; omega
theorem words_pos (s : ByteArray) (a : Int) (h0 : 0 ≤ a) (h : a < s.size) (hl : isLetter (bt s a) = true) : 1 ≤ (words s a).1 := by
  have hr := run_pos isLetter s a h0 h hl
  unfold words
  simp only [wordsL, Int.add_zero]
  generalize (run isLetter s a.toNat) = k at hr
  split
  · have := wordsL_ge s a s.size (0 + k + 1) (if 5 < (1 : Int) + 1 ∧ (if 10 < (k : Int) ∧ (-1 : Int) < 0 then 0 + 10 else -1) < 0 then 0 + (k : Int) else if 10 < (k : Int) ∧ (-1 : Int) < 0 then 0 + 10 else -1) (1 + 1)
    omega
  · simp only; omega
theorem next_fits (s : ByteArray) (a k : Int) (h0 : 0 ≤ a) (h : a < s.size) :
    a + (nextOf s a k).1.text.size ≤ s.size ∧ -1 ≤ (nextOf s a k).2 ∧ (nextOf s a k).2 ≤ s.size + 16 := by
  unfold nextOf
  split
  · obtain ⟨b1, b2, b3, b4⟩ := words_le s a h0 (by omega)
    refine ⟨?_, b3, b4⟩
    simp only [nextWord]
    rw [extract_size _ _ _ (by omega) (by omega)]
    omega
  · split
    · have hr := run_le isDigit s a.toNat (by omega)
      simp only [nextNum]
      rw [extract_size _ _ _ (by omega) (by omega)]
      refine ⟨by omega, ?_, ?_⟩ <;> (repeat' split) <;> omega
    · have hr := longest_le (s.extract a.toNat s.size)
      have hz := extract_size s a.toNat s.size (by omega) (Nat.le_refl _)
      simp only [nextSign]
      rw [extract_size _ _ _ (by omega) (by omega)]
      refine ⟨by omega, ?_, ?_⟩ <;> (repeat' split) <;> omega
theorem next_pos (s : ByteArray) (a : Int) (h0 : 0 ≤ a) (h : a < s.size) (hk : kindOf (bt s a) ≠ 0) (hb : (nextOf s a (kindOf (bt s a))).2 < 0) : 1 ≤ (nextOf s a (kindOf (bt s a))).1.text.size := by
  rcases kindOf_cases (bt s a) with e | e | e | e
  · exact absurd e hk
  · have hp := words_pos s a h0 h (kindOf_letter e)
    obtain ⟨b1, b2, b3, b4⟩ := words_le s a h0 (by omega)
    rw [e]
    simp only [nextOf, nextWord, if_true]
    rw [extract_size _ _ _ (by omega) (by omega)]
    omega
  · have hp := run_pos isDigit s a h0 h (kindOf_digit e)
    have hr := run_le isDigit s a.toNat (by omega)
    rw [e]
    simp only [nextOf, nextNum, if_true, show ¬ (2 : Int) = 1 by omega, if_false]
    rw [extract_size _ _ _ (by omega) (by omega)]
    omega
  · rw [e] at hb ⊢
    have hr := longest_le (s.extract a.toNat s.size)
    have hz := extract_size s a.toNat s.size (by omega) (Nat.le_refl _)
    simp only [nextOf, nextSign, show ¬ (3 : Int) = 1 by omega, show ¬ (3 : Int) = 2 by omega, if_false] at hb ⊢
    rw [extract_size _ _ _ (by omega) (by omega)]
    split at hb <;> omega
def rawL (s : ByteArray) : Nat → Int → List Tok → List Tok × Int × Int
  | 0, _, acc => (acc, 0, 0)
  | f + 1, a, acc =>
    if lay s a = s.size then (acc, 0, 0)
    else if kindOf (bt s (lay s a)) = 0 then ([], lay s a, 4)
    else if (acc.length : Int) = 4000 then ([], lay s a, 2)
    else if 0 ≤ (nextOf s (lay s a) (kindOf (bt s (lay s a)))).2 then ([], lay s a + (nextOf s (lay s a) (kindOf (bt s (lay s a)))).2, 4)
    else rawL s f (lay s a + (nextOf s (lay s a) (kindOf (bt s (lay s a)))).1.text.size) (acc ++ [(nextOf s (lay s a) (kindOf (bt s (lay s a)))).1])
def rawAll (s : ByteArray) : List Tok × Int × Int := rawL s (s.size + 2) 0 []
theorem lay_ge (s : ByteArray) : ∀ (f : Nat) (a : Int), a ≤ layL s f a := by
  intro f
  induction f with
  | zero => intro a; exact Int.le_refl _
  | succ f ih =>
    intro a
    simp only [layL]
    split
    · split
      · have := ih (a + 1); omega
      · split
        · have := ih (a + (run (fun c => c != 10) s a.toNat : Nat)); omega
        · exact Int.le_refl _
    · exact Int.le_refl _
end Go.Proofs.YtfnhjdehlikbaaaGreatDoor.Lx
namespace Go.Proofs.YtfnhjdehlikbaaaGreatDoor.Lx
open Go.RowKit Go.Proofs.YtfnhjdehlikbaaaGreatDoorW.PrintWords
def tokZ : Tok := ⟨0, 0, ⟨#[]⟩, 0, 0, 0⟩
structure RawCaller (l base : Nat) (J : List Tok → (Nat → Prop) → World → Prop) (Jx : Int → Int → World → Prop) : Prop where
  stay : ∀ acc own W W', J acc own W → Keep (fun k => base ≤ k ∧ ¬ own k) W W' → J acc own W'
  lt : ∀ acc own W k, J acc own W → own k → k < W.heap.size
  more : ∀ acc own W t, J acc own W → acc.length < 4000 → YieldAt Fence.wide 0 Tryz.prog l #[.agg t.cells, .agg #[.int .i64 0, .int .i64 0]] W (fun e W' => e = .returned (.bool true) ∧ ∃ own', J (acc ++ [t]) own' W' ∧ Keep own W W' ∧ ∀ k, own' k → own k ∨ W.heap.size ≤ k)
  stop : ∀ acc own W at_ err, J acc own W → err ≠ 0 → YieldAt Fence.wide 0 Tryz.prog l #[.agg tokZ.cells, .agg #[.int .i64 at_, .int .i64 err]] W (fun e W' => e = .returned (.bool false) ∧ Jx at_ err W')
def RawEnd (s : ByteArray) (J : List Tok → (Nat → Prop) → World → Prop) (Jx : Int → Int → World → Prop) (W' : World) : Prop :=
  (∃ acc own, rawAll s = (acc, 0, 0) ∧ J acc own W') ∨ (∃ at_ err, err ≠ 0 ∧ rawAll s = ([], at_, err) ∧ Jx at_ err W')
structure RawIt (s : ByteArray) (l base g gk bs : Nat) (J : List Tok → (Nat → Prop) → World → Prop) (acc : List Tok) (own : Nat → Prop) (a : Int) (w : World) : Prop where
  src : SrcAt w g a s
  kinds : w.heap[gk]? = some (.cells (tbl2 18) 142)
  cap : w.heap[bs]? = some (.cells #[.string s] 9)
  j : J acc own w
  og : ¬ own g
  ok : ¬ own gk
  ob : ¬ own bs
  bg : base ≤ g
  bk : base ≤ gk
  gk_ne : gk ≠ g
  bs_ne : bs ≠ g
section
variable {s : ByteArray} {l base g gk bs : Nat} {J : List Tok → (Nat → Prop) → World → Prop} {Jx : Int → Int → World → Prop} {acc : List Tok} {own : Nat → Prop} {a : Int} {w w2 : World}
theorem RawIt.step (h : RawIt s l base g gk bs J acc own a w) (hc : RawCaller l base J Jx) (hk : Keep (· = g) w w2) {a' : Int} (hs : SrcAt w2 g a' s) : RawIt s l base g gk bs J acc own a' w2 :=
  ⟨hs, (hk.block _ (heap_lt h.kinds) h.gk_ne).trans h.kinds, (hk.block _ (heap_lt h.cap) h.bs_ne).trans h.cap,
    hc.stay _ _ _ _ h.j (hk.mono (fun i hi => by subst hi; exact ⟨h.bg, h.og⟩)), h.og, h.ok, h.ob, h.bg, h.bk, h.gk_ne, h.bs_ne⟩
theorem RawIt.new (h : RawIt s l base g gk bs J acc own a w) (hc : RawCaller l base J Jx) (hb : Below w.heap.size w w2) : RawIt s l base g gk bs J acc own a w2 :=
  ⟨(hb.block _ (heap_lt h.src)).trans h.src, (hb.block _ (heap_lt h.kinds)).trans h.kinds, (hb.block _ (heap_lt h.cap)).trans h.cap,
    hc.stay _ _ _ _ h.j (Keep.of_below hb), h.og, h.ok, h.ob, h.bg, h.bk, h.gk_ne, h.bs_ne⟩
theorem RawIt.drewN (h : RawIt s l base g gk bs J acc own a w) (hc : RawCaller l base J Jx) (n : Nat) : RawIt s l base g gk bs J acc own a (w.drewN n) :=
  h.new hc ⟨rfl, rfl, rfl, Nat.le_refl _, fun _ _ => rfl⟩
theorem RawIt.round (h : RawIt s l base g gk bs J acc own a w) {acc' : List Tok} {own' : Nat → Prop} (hj : J acc' own' w2) (hk : Keep own w w2) (ho : ∀ k, own' k → own k ∨ w.heap.size ≤ k) : RawIt s l base g gk bs J acc' own' a w2 := by
  have hn : ∀ k, ¬ own k → k < w.heap.size → ¬ own' k := fun k h1 h2 h3 => by
    rcases ho k h3 with h4 | h4
    · exact h1 h4
    · omega
  exact ⟨(hk.block _ (heap_lt h.src) h.og).trans h.src, (hk.block _ (heap_lt h.kinds) h.ok).trans h.kinds, (hk.block _ (heap_lt h.cap) h.ob).trans h.cap, hj,
    hn _ h.og (heap_lt h.src), hn _ h.ok (heap_lt h.kinds), hn _ h.ob (heap_lt h.cap), h.bg, h.bk, h.gk_ne, h.bs_ne⟩
end
theorem srcAt0 (w : World) (g : Nat) (s : ByteArray) (h : w.heap[g]? = some (.cells #[.int .i64 0, .int .i64 0, .int .i64 0, .string s] 112)) : SrcAt w g 0 s := h
set_option maxRecDepth 100000 in
set_option maxHeartbeats 8000000 in
theorem raw1_any (l bs base : Nat) (s : ByteArray) (J : List Tok → (Nat → Prop) → World → Prop) (Jx : Int → Int → World → Prop) (hc : RawCaller l base J Jx) (W : World) (hs : s.size ≤ 140737488351232)
    (hbase : base ≤ W.heap.size) (own : Nat → Prop) (hJ0 : J [] own W) (hbs : W.heap[bs]? = some (.cells #[.string s] 9)) (hbo : ¬ own bs) :
    Calls Tryz.prog 96 #[.func (.yield l) #[] #[], .pointer (some ⟨bs, 0, none⟩)] W fun e W' => (∃ v, e = .returned v) ∧ RawEnd s J Jx W' := by
  have hbl := heap_lt hbs
  have hb0 : W.cell? ⟨bs, 0, none⟩ = some (.string s) := cell_of hbs 0
  have hz : Tryz.zeroCells142 = tbl1 0 := by kernel_rfl
  have hz1 : (tbl1 0).size = (tbl2 18).size := by rw [tbl1_size, tbl2_size]
  have hz2 : (Tryz.prog.info? 142).map (·.size) = some (tbl2 18).size := by rw [tbl2_size]; kernel_rfl
  have hz3 : (tbl2 18).all (·.oneCell') = true := by
    rw [Array.all_eq_true_iff_forall_mem]
    intro v hv
    simp only [tbl2, Array.mem_ofFn] at hv
    obtain ⟨i, rfl⟩ := hv
    rfl
  have HZ1 := Aside0.mk hz1; clear hz1
  have HZ2 := Aside0.mk hz2; clear hz2
  have HZ3 := Aside0.mk hz3; clear hz3
  have HC := Aside0.mk hc; clear hc
  have HJ := Aside0.mk hJ0; clear hJ0
  have HBS := Aside0.mk hbs; clear hbs
  have HBO := Aside0.mk hbo; clear hbo
  go_enter Tryz.func96, Tryz.ntmps96
  go_wp2_with (first | (go_at_call 97; (with_reducible refine (begins_any _).mono ?_); rintro e w1 ⟨rfl, hb1⟩; have HB1 := Aside0.mk hb1; clear hb1) | (refine wpList_store_row rfl 142 _ _ rfl w1.heap.size (tbl2 18) rfl rfl 142 (tbl1 0) (heap_new _ _) HZ2.out HZ1.out HZ3.out ?_))
  have hgl1 : W.heap.size < w1.heap.size := by have := HB1.out.size; simp at this; omega
  clear hb0 hz
  go_loopg [5] (s.size + 2) (fun f t5 wr => ∃ (acc : List Tok) (own' : Nat → Prop) (a : Int), t5 = .int .i64 (acc.length : Int) ∧ acc.length ≤ 4000 ∧ 0 ≤ a ∧ a ≤ s.size ∧ Aside0 (RawIt s l base W.heap.size w1.heap.size bs J acc own' a wr ∧ rawL s f a acc = rawAll s ∧ (s.size : Int) + 2 ≤ a + f))
  case atStart =>
    refine ⟨[], own, 0, rfl, by simp, by omega, by omega, ⟨⟨?_, ?_, ?_, ?_, ?_, ?_, HBO.out, hbase, by omega, by omega, by omega⟩, rfl, by omega⟩⟩
    · refine srcAt0 _ _ _ ?_
      rw [setRow_other _ _ _ _ (by omega), heap_old _ hgl1, HB1.out.block _ (by simp)]
      exact heap_new W _
    · exact setRow_same (heap_new _ _) _
    · rw [setRow_other _ _ _ _ (by omega), heap_old _ (by omega), HB1.out.block _ (by simp; omega), heap_old _ hbl]
      exact HBS.out
    · refine HC.out.stay _ _ _ _ HJ.out ?_
      have k1 : Keep (fun k => base ≤ k ∧ ¬ own k) W w1 := Keep.of_below (((Below.refl _ W).alloc (Nat.le_refl _) _).trans (HB1.out.mono (by simp)))
      have k2 := (k1.alloc (.cells (tbl1 0) 142))
      refine k2.then (S' := (· = w1.heap.size)) ?_ ?_
      · exact ⟨rfl, rfl, rfl, by simp, fun k _ hk => setRow_other _ _ _ _ hk⟩
      · intro i hi e
        omega
    · intro ho
      exact absurd (HC.out.lt _ _ _ _ HJ.out ho) (by omega)
    · intro ho
      exact absurd (HC.out.lt _ _ _ _ HJ.out ho) (by omega)
  case round =>
    clear HJ HBS HBO HZ1 HZ2 HZ3
    obtain ⟨acc, own', a, rfl, hacc, ha0, ha1, ⟨hit, hrl, hfu⟩⟩ := hrel
    cases gk with
    | zero => exact absurd hfu (by omega)
    | succ f =>
      have HFU := Aside0.mk hfu; clear hfu
      have HIT := Aside0.mk hit; clear hit
      have hlay := fun W => layout_at w1.heap.size a s W hs ha0 ha1
      clear hlay
      have hlay := layout_at W.heap.size a s wr hs ha0 ha1 HIT.out.src
      have HLAY := Aside0.mk hlay; clear hlay
      have HRL := Aside0.mk hrl; clear hrl
      go_upto_region 5 with (go_at_call 98; (with_reducible refine HLAY.out.mono ?_); rintro e w2 ⟨rfl, hk2, hs2, hy0, hy1⟩; have HI2 := Aside0.mk (HIT.out.step HC.out hk2 hs2); clear hk2 hs2)
      have hrl := HRL.out
      simp only [rawL] at hrl
      clear HRL HLAY HIT
      have hga : a ≤ lay s a := lay_ge s _ a
      generalize lay s a = b at hrl HI2 hy0 hy1 hga
      have e0 := cell_of HI2.out.src 0
      have e3 := cell_of HI2.out.src 3
      have ec := cell_of HI2.out.cap 0
      replace e0 : w2.cell? ⟨W.heap.size, 0, none⟩ = some (.int .i64 b) := e0
      replace e3 : w2.cell? ⟨W.heap.size, 3, none⟩ = some (.string s) := e3
      replace ec : w2.cell? ⟨bs, 0, none⟩ = some (.string s) := ec
      by_cases hend : b = s.size
      · rw [if_pos hend] at hrl
        have hendb : (b == (s.size : Int)) = true := beq_iff_eq.2 hend
        clear hend
        have HRL := Aside0.mk hrl; clear hrl
        go_quiet (fail)
        go_wp2
        refine bodyPost_ret (results_none rfl _ _ _) rfl ⟨⟨_, rfl⟩, .inl ⟨acc, own', HRL.out.symm, (HI2.out.drewN HC.out _).j⟩⟩
      · rw [if_neg hend] at hrl
        have hendb : (b == (s.size : Int)) = false := beq_eq_false_iff_ne.2 hend
        have hlt : b < s.size := by omega
        clear hend
        have hbn : b.toNat < s.size := by omega
        have hxb := bt_get s b hbn
        obtain ⟨x, hx⟩ : ∃ x : UInt8, s[b.toNat]'hbn = x := ⟨_, rfl⟩
        rw [hx] at hxb
        have hx256 : x.toNat < 256 := UInt8.toNat_lt x
        have ek : w2.cell? ⟨w1.heap.size, x.toNat, none⟩ = some (.int .i64 (kindOf (bt s b))) := by
          rw [cell_of HI2.out.kinds, tbl2_get _ _ (UInt8.toNat_lt x), ← hxb]; rfl
        have hkc := kindOf_cases (bt s b)
        have hnp := next_pos s b hy0 hlt
        have hnf := next_fits s b (kindOf (bt s b)) hy0 hlt
        clear hxb
        generalize kindOf (bt s b) = k at hrl ek hkc hnp hnf
        have HNP := Aside0.mk hnp; clear hnp
        by_cases hk0 : k = 0
        · rw [if_pos hk0] at hrl
          subst hk0
          have HRL := Aside0.mk hrl; clear hrl
          go_quiet (fail)
          obtain ⟨n1, rfl⟩ : ∃ n1, n1 = nq := ⟨nq, rfl⟩
          go_wp2
          go_quiet (fail)
          go_upto_region 8 with (fail)
          obtain ⟨fn, tmps, asg, body, hy, hR⟩ := HC.out.stop acc own' (w2.drewN (n1 + nq)) b 4 (HI2.out.drewN HC.out _).j (by decide)
          simp only [Tok.cells, tokZ] at hy
          have HR := Aside0.mk hR; clear hR
          refine (wpIn_wide (n := 1)).1 ?_
          gi_wp2
          refine HR.out.mono ?_
          rintro e W3 ⟨rfl, hjx⟩
          have HJX := Aside0.mk hjx; clear hjx
          gi_wp2
          go_wp2
          refine bodyPost_ret (results_none rfl _ _ _) rfl ⟨⟨_, rfl⟩, .inr ⟨b, 4, by decide, HRL.out.symm, HJX.out⟩⟩
        · rw [if_neg hk0] at hrl
          have hk0b : (k == 0) = false := beq_eq_false_iff_ne.2 hk0
          by_cases hmany : (acc.length : Int) = 4000
          · rw [if_pos hmany] at hrl
            have hmb : ((acc.length : Int) == 4000) = true := beq_iff_eq.2 hmany
            have HRL := Aside0.mk hrl; clear hrl hmany
            go_quiet (fail)
            obtain ⟨n1, rfl⟩ : ∃ n1, n1 = nq := ⟨nq, rfl⟩
            go_wp2
            go_quiet (fail)
            go_upto_region 10 with (fail)
            obtain ⟨fn, tmps, asg, body, hy, hR⟩ := HC.out.stop acc own' (w2.drewN (n1 + nq)) b 2 (HI2.out.drewN HC.out _).j (by decide)
            simp only [Tok.cells, tokZ] at hy
            have HR := Aside0.mk hR; clear hR
            refine (wpIn_wide (n := 1)).1 ?_
            gi_wp2
            refine HR.out.mono ?_
            rintro e W3 ⟨rfl, hjx⟩
            have HJX := Aside0.mk hjx; clear hjx
            gi_wp2
            go_wp2
            refine bodyPost_ret (results_none rfl _ _ _) rfl ⟨⟨_, rfl⟩, .inr ⟨b, 2, by decide, HRL.out.symm, HJX.out⟩⟩
          · rw [if_neg hmany] at hrl
            have hmb : ((acc.length : Int) == 4000) = false := beq_eq_false_iff_ne.2 hmany
            have hk123 : k = 1 ∨ k = 2 ∨ k = 3 := by omega
            have HK := Aside0.mk hk123; clear hk123 hkc
            have hNX : Aside0 (∀ n, Calls Tryz.prog 99 #[.pointer (some ⟨W.heap.size, 0, none⟩), .int .i64 k] (w2.drewN n) fun e w' => e = .returned (.tuple #[.agg (nextOf s b k).1.cells, .int .i64 (nextOf s b k).2]) ∧ Below (w2.drewN n).heap.size (w2.drewN n) w') := ⟨fun n => next_any W.heap.size b k s (w2.drewN n) hs hy0 hlt HK.out (HI2.out.drewN HC.out n).src⟩
            have HNP1 : Aside0 ((nextOf s b k).2 < 0 → 1 ≤ (nextOf s b k).1.text.size) := ⟨fun h => HNP.out hk0 h⟩
            clear HNP HK
            obtain ⟨nf1, nf2, nf3⟩ := hnf
            generalize nextOf s b k = P at hrl hNX nf1 nf2 nf3 HNP1
            obtain ⟨⟨tk, tn, tx, ta, tl, tc⟩, bad⟩ := P
            simp only [Tok.cells] at hrl hNX nf1 nf2 nf3 HNP1
            by_cases hbad : 0 ≤ bad
            · rw [if_pos hbad] at hrl
              have HRL := Aside0.mk hrl; clear hrl hmany
              go_quiet (fail)
              obtain ⟨n1, rfl⟩ : ∃ n1, n1 = nq := ⟨nq, rfl⟩
              go_wp2
              go_quiet (fail)
              go_upto_region 13 with (go_at_call 99; (with_reducible refine (hNX.out _).mono ?_); rintro e w4 ⟨rfl, hb4⟩; have HI4 := Aside0.mk ((HI2.out.drewN HC.out _).new HC.out hb4); clear hb4)
              obtain ⟨fn, tmps, asg, body, hy, hR⟩ := HC.out.stop acc own' _ (b + bad) 4 ((HI4.out.new HC.out ((Below.refl _ _).alloc (Nat.le_refl _) (.cells #[.int .i64 tk, .int .i64 tn, .string tx, .int .i64 ta, .int .i64 tl, .int .i64 tc] 54))).j) (by decide)
              have h0w : w4.cell? ⟨W.heap.size, 0, none⟩ = some (.int .i64 b) := cell_of HI4.out.src 0
              have hgw := heap_lt HI4.out.src
              simp only [Tok.cells, tokZ] at hy
              have HR := Aside0.mk hR; clear hR
              refine (wpIn_wide (n := 1)).1 ?_
              gi_wp2
              refine HR.out.mono ?_
              rintro e W3 ⟨rfl, hjx⟩
              have HJX := Aside0.mk hjx; clear hjx
              gi_wp2
              go_wp2
              refine bodyPost_ret (results_none rfl _ _ _) rfl ⟨⟨_, rfl⟩, .inr ⟨b + bad, 4, by decide, HRL.out.symm, HJX.out⟩⟩
            · rw [if_neg hbad] at hrl
              have HRL := Aside0.mk hrl; clear hrl
              go_quiet (fail)
              obtain ⟨n1, rfl⟩ : ∃ n1, n1 = nq := ⟨nq, rfl⟩
              go_wp2
              go_quiet (fail)
              go_upto_region 14 with (go_at_call 99; (with_reducible refine (hNX.out _).mono ?_); rintro e w4 ⟨rfl, hb4⟩; have HI4 := Aside0.mk ((HI2.out.drewN HC.out _).new HC.out hb4); clear hb4)
              have HI5 := Aside0.mk (HI4.out.new HC.out ((Below.refl _ _).alloc (Nat.le_refl _) (.cells #[.int .i64 tk, .int .i64 tn, .string tx, .int .i64 ta, .int .i64 tl, .int .i64 tc] 54)))
              have hacc' : acc.length < 4000 := by omega
              obtain ⟨fn, tmps, asg, body, hy, hR⟩ := HC.out.more acc own' _ ⟨tk, tn, tx, ta, tl, tc⟩ HI5.out.j hacc'
              have hn5 : ¬ own' w4.heap.size := fun h => absurd (HC.out.lt _ _ _ _ HI4.out.j h) (by omega)
              have HN5 := Aside0.mk hn5; clear hn5
              have ht0 : (w4.alloc (.cells #[.int .i64 tk, .int .i64 tn, .string tx, .int .i64 ta, .int .i64 tl, .int .i64 tc] 54)).heap[w4.heap.size]? = _ := heap_new _ _
              have HT0 := Aside0.mk ht0; clear ht0
              simp only [Tok.cells] at hy
              have HR := Aside0.mk hR; clear hR
              refine (wpIn_wide (n := 1)).1 ?_
              gi_wp2
              refine HR.out.mono ?_
              rintro e W6 ⟨rfl, own2, hj6, hk6, ho6⟩
              have HI6 := Aside0.mk (HI5.out.round hj6 hk6 ho6)
              have ht6 := (hk6.block w4.heap.size (by simp) HN5.out).trans HT0.out
              have htc : W6.cell? ⟨w4.heap.size, 2, none⟩ = some (.string tx) := cell_of ht6 2
              clear hj6 hk6 ho6 ht6
              have hps := pass_at W.heap.size b tx.size s W6 hs hy0 (by omega) HI6.out.src
              have HPS := Aside0.mk hps; clear hps
              gi_wp2
              go_wp2_with (go_at_call 65; (with_reducible refine HPS.out.mono ?_); rintro e w7 ⟨rfl, hk7, hs7⟩; have HI7 := Aside0.mk (HI6.out.step HC.out hk7 hs7); clear hk7 hs7)
              go_roundg f
              case measure => omega
              case rel => exact ⟨acc ++ [⟨tk, tn, tx, ta, tl, tc⟩], own2, b + tx.size, by simp, by simp; omega, by omega, by omega, ⟨HI7.out, HRL.out, by have := HFU.out; have := HNP1.out (by omega); omega⟩⟩
end Go.Proofs.YtfnhjdehlikbaaaGreatDoor.Lx
namespace Go.Proofs.YtfnhjdehlikbaaaGreatDoor.Lx
open Go.RowKit Go.Proofs.YtfnhjdehlikbaaaGreatDoorW.PrintWords
theorem raw_any (s : ByteArray) (w : World) :
    Calls Tryz.prog 57 #[.string s] w fun e w' => e = .returned (.func (.func 96) #[] #[.pointer (some ⟨w.heap.size, 0, none⟩)]) ∧ w.alloc (.cells #[.string s] 9) = w' := by
  go_enter Tryz.func57, Tryz.ntmps57
  go_wp2
  go_ret
  exact ⟨rfl, rfl⟩
theorem wp_range_raw {g : Operand} {ps : Array Tmp} {assign body : Code} {Q : Exit → Act → World → Prop} {a : Act} {W0 : World} {bs : Nat} {s : ByteArray}
    (D : Nat) (hDeq : W0.heap.size = D) (hg : a.eval g = .func (.func 96) #[] #[.pointer (some ⟨bs, 0, none⟩)]) (hps : ps.size = 2) (hs : s.size ≤ 140737488351232) (hbs : W0.heap[bs]? = some (.cells #[.string s] 9))
    (C : List Tok → (Nat → Prop) → World → Prop) (Cx : Int → Int → World → Prop) (own0 : Nat → Prop) (h0 : C [] own0 W0) (hob : ¬ own0 bs)
    (hlt : ∀ acc own W k, C acc own W → own k → k < W.heap.size)
    (hstay : ∀ acc own W W', C acc own W → Keep (fun k => W0.heap.size ≤ k ∧ ¬ own k) W W' → C acc own W')
    (hxstay : ∀ at_ err W W', Cx at_ err W → Keep (fun k => W0.heap.size ≤ k) W W' → Cx at_ err W')
    (hmore : ∀ l acc own W t, C acc own W → acc.length < 4000 → ¬ own l → l < W.heap.size → W0.heap.size ≤ l →
      assign.wpIn (Fence.wide.inRound l) 0 Tryz.prog (Exit.then (fun a1 w1 => Keep (fun _ => False) W w1 ∧ ∀ w2, Keep (· = l) w1 w2 →
        body.wpIn (Fence.wide.inRound l) 0 Tryz.prog (fun e _ W3 => e = .normal ∧ ∃ own', C (acc ++ [t]) own' W3 ∧ Keep own w2 W3 ∧ ∀ k, own' k → own k ∨ W.heap.size ≤ k) a1 w2) (fun _ _ _ => False))
        { tmps := (ps.zip #[.agg t.cells, .agg #[.int .i64 0, .int .i64 0]]).foldl (fun tm (p, v) => tm.setIfInBounds p v) a.tmps, defers := [] } W)
    (hstop : ∀ l acc own W at_ err, C acc own W → err ≠ 0 → ¬ own l → l < W.heap.size → W0.heap.size ≤ l →
      assign.wpIn (Fence.wide.inRound l) 0 Tryz.prog (Exit.then (fun a1 w1 => Keep (fun _ => False) W w1 ∧ ∀ w2, Keep (· = l) w1 w2 →
        body.wpIn (Fence.wide.inRound l) 0 Tryz.prog (fun e _ W3 => e = .ret ∧ Cx at_ err W3 ∧ Keep own w2 W3) a1 w2) (fun _ _ _ => False))
        { tmps := (ps.zip #[.agg tokZ.cells, .agg #[.int .i64 at_, .int .i64 err]]).foldl (fun tm (p, v) => tm.setIfInBounds p v) a.tmps, defers := [] } W)
    (hdone : ∀ acc own W, rawAll s = (acc, 0, 0) → C acc own W → W.heap[D]? = some (.deferred (some [])) → Q .normal { a with defers := { target := .collected D, args := #[] } :: a.defers } W)
    (hret : ∀ at_ err W, err ≠ 0 → rawAll s = ([], at_, err) → Cx at_ err W → W.heap[D]? = some (.deferred (some [])) → Q .ret { a with defers := { target := .collected D, args := #[] } :: a.defers } W) :
    (Code.rangeFunc g ps assign body).wp Tryz.prog Q a W0 := by
  subst hDeq
  refine (wpIn_wide (n := 3)).1 ?_
  refine wpIn_rangeFunc ?_
  intro fn _
  obtain ⟨rec, hrec⟩ : ∃ rec : LoopState → Option Code → Loop, rec = fun st pe => { state := st, pending := pe, fn, tmps := a.tmps, params := ps, assign, body, defers := W0.heap.size } := ⟨_, rfl⟩
  obtain ⟨W1, hW1⟩ : ∃ W1, (W0.alloc (.deferred (some []))).alloc (.loop (rec .ready none)) = W1 := ⟨_, rfl⟩
  have hL1 : W1.heap[W0.heap.size + 1]? = some (.loop (rec .ready none)) := by rw [← hW1]; exact heap_new' _ _ _ (by simp)
  have hD1 : W1.heap[W0.heap.size]? = some (.deferred (some [])) := by rw [← hW1]; exact heap_alloc (heap_new W0 _) _
  have hz1 : W1.heap.size = W0.heap.size + 2 := by rw [← hW1]; simp
  have hk1 : ∀ S, Keep S W0 W1 := fun S => by rw [← hW1]; exact ((Keep.refl S W0).alloc _).alloc _
  refine ⟨W0.heap.size + 1, [{ target := .collected W0.heap.size, args := #[] }], W1, { target := .fn (.func 96) #[.pointer (some ⟨bs, 0, none⟩)], args := #[.func (.yield (W0.heap.size + 1)) #[] #[]] }, W1, 96,
    #[.func (.yield (W0.heap.size + 1)) #[] #[], .pointer (some ⟨bs, 0, none⟩)], W1, ?_, ?_, fun _ _ => trivial, ?_, fun _ => by omega, ?_⟩
  · rw [← hW1, hrec]; exact run_enterLoop_outer _ _ _ _ _
  · simp only [resolve, hg]
    simp [go_sem]
  · have eg := enters_of Tryz.func96 (by kernel_rfl) rfl
    simp [invoke, go_sem, eg]
  · refine callsIn_wide.2 ?_
    obtain ⟨J, hJ⟩ : ∃ J : List Tok → (Nat → Prop) → World → Prop, J = fun acc own W => ∃ oc : Nat → Prop, own = (fun k => oc k ∨ k = W0.heap.size + 1 ∨ k = W0.heap.size) ∧ C acc oc W ∧ ¬ oc (W0.heap.size + 1) ∧ ¬ oc W0.heap.size ∧ W.heap[W0.heap.size + 1]? = some (.loop (rec .ready none)) ∧ W.heap[W0.heap.size]? = some (.deferred (some [])) := ⟨_, rfl⟩
    obtain ⟨Jx, hJx⟩ : ∃ Jx : Int → Int → World → Prop, Jx = fun at_ err W => Cx at_ err W ∧ W.heap[W0.heap.size + 1]? = some (.loop (rec .done (some .ret))) ∧ W.heap[W0.heap.size]? = some (.deferred (some [])) := ⟨_, rfl⟩
    -- one round's book-keeping
    have fin : ∀ (jump : Option Code) (l : Nat) (W3 : World), l = W0.heap.size + 1 → W3.heap[l]? = some (.loop (rec .busy none)) →
        (Instr.endRound l jump).run Tryz.prog W3 = .ok (.bool jump.isNone) (W3.putObj l (.loop (rec (if jump.isNone then .ready else .done) jump))) := fun jump l W3 hl h3 => by
      have := run_endRound (P := Tryz.prog) jump h3
      rw [hrec] at this ⊢
      exact this
    have hcaller : RawCaller (W0.heap.size + 1) (W0.heap.size + 2) J Jx := by
      rw [hJ, hJx]
      refine ⟨?_, ?_, ?_, ?_⟩
      · rintro acc own W W' ⟨oc, rfl, hc, hl, hd, hL, hD⟩ hk
        refine ⟨oc, rfl, hstay _ _ _ _ hc (hk.mono (fun k hk => ⟨by omega, fun h => hk.2 (.inl h)⟩)), hl, hd, (hk.block _ (heap_lt hL) (by omega)).trans hL, (hk.block _ (heap_lt hD) (by omega)).trans hD⟩
      · rintro acc own W k ⟨oc, rfl, hc, hl, hd, hL, hD⟩ (hk | rfl | rfl)
        · exact hlt _ _ _ _ hc hk
        · exact heap_lt hL
        · exact heap_lt hD
      · rintro acc own W t ⟨oc, rfl, hc, hl, hd, hL, hD⟩ hlen
        have hy := run_yield (P := Tryz.prog) (args := #[.agg t.cells, .agg #[.int .i64 0, .int .i64 0]]) hL (by rw [hrec]; simp [hps])
        rw [hrec] at hy
        refine ⟨fn, _, assign, body, hy, roundIn_of_wpIn trivial ?_⟩
        refine wpIn_mono (hmore (W0.heap.size + 1) acc oc W t hc hlen hl (heap_lt hL) (by omega)) ?_
        intro e a1 w1 h
        cases e <;> first | exact h | skip
        obtain ⟨hk0, hbody⟩ := h
        have hL2 : w1.heap[W0.heap.size + 1]? = some (.loop (rec .ready none)) := (hk0.block _ (heap_lt hL) (fun h => h)).trans hL
        have hbr := run_beginRound (P := Tryz.prog) hL2 (by rw [hrec])
        refine ⟨_, hbr, ?_⟩
        have e1 : { rec .ready none with state := .busy } = rec .busy none := by rw [hrec]
        rw [e1]
        have hkl : Keep (· = W0.heap.size + 1) w1 (w1.putObj (W0.heap.size + 1) (.loop (rec .busy none))) := (Keep.refl (· = W0.heap.size + 1) w1).put (r := W0.heap.size + 1) (.inl rfl) _
        refine wpIn_mono (hbody _ hkl) ?_
        rintro e a3 W3 ⟨rfl, own', hc', hk', ho'⟩
        have hL3 : W3.heap[W0.heap.size + 1]? = some (.loop (rec .busy none)) := (hk'.block _ (by simp; exact heap_lt hL2) hl).trans (heap_put hL2 _)
        have hsz : W.heap.size ≤ W3.heap.size := by have := hk0.size; have := hk'.size; simp at this; omega
        have hD3 : W3.heap[W0.heap.size]? = some (.deferred (some [])) := by
          rw [hk'.block _ (by simp; have := hk0.size; have := heap_lt hD; omega) hd, heap_put_other (by omega), hk0.block _ (heap_lt hD) (fun h => h)]
          exact hD
        have hnl : ¬ own' (W0.heap.size + 1) := fun h => by
          rcases ho' _ h with h1 | h1
          · exact hl h1
          · have := heap_lt hL; omega
        have hnd : ¬ own' W0.heap.size := fun h => by
          rcases ho' _ h with h1 | h1
          · exact hd h1
          · have := heap_lt hD; omega
        have hk3 : ∀ o, Keep (· = W0.heap.size + 1) W3 (W3.putObj (W0.heap.size + 1) o) := fun o => (Keep.refl (· = W0.heap.size + 1) W3).put (r := W0.heap.size + 1) (.inl rfl) _
        refine ⟨_, _, fin none _ W3 rfl hL3, rfl, (fun k => own' k ∨ k = W0.heap.size + 1 ∨ k = W0.heap.size), ⟨own', rfl, hstay _ _ _ _ hc' ((hk3 _).mono (fun k hk => by subst hk; exact ⟨by omega, hnl⟩)), hnl, hnd, heap_put hL3 _, (heap_put_other (by omega) _).trans hD3⟩, ?_, ?_⟩
        · refine Keep.trans ?_ ((hk3 _).mono (fun k hk => .inr (.inl hk)))
          refine Keep.trans (hk0.mono (fun k hk => hk.elim)) ?_
          exact Keep.trans (hkl.mono (fun k hk => .inr (.inl hk))) (hk'.mono (fun k hk => .inl hk))
        · rintro k (hk | hk)
          · rcases ho' k hk with h1 | h1
            · exact .inl (.inl h1)
            · exact .inr h1
          · exact .inl (.inr hk)
      · rintro acc own W at_ err ⟨oc, rfl, hc, hl, hd, hL, hD⟩ herr
        have hy := run_yield (P := Tryz.prog) (args := #[.agg tokZ.cells, .agg #[.int .i64 at_, .int .i64 err]]) hL (by rw [hrec]; simp [hps])
        rw [hrec] at hy
        refine ⟨fn, _, assign, body, hy, roundIn_of_wpIn trivial ?_⟩
        refine wpIn_mono (hstop (W0.heap.size + 1) acc oc W at_ err hc herr hl (heap_lt hL) (by omega)) ?_
        intro e a1 w1 h
        cases e <;> first | exact h | skip
        obtain ⟨hk0, hbody⟩ := h
        have hL2 : w1.heap[W0.heap.size + 1]? = some (.loop (rec .ready none)) := (hk0.block _ (heap_lt hL) (fun h => h)).trans hL
        have hbr := run_beginRound (P := Tryz.prog) hL2 (by rw [hrec])
        refine ⟨_, hbr, ?_⟩
        have e1 : { rec .ready none with state := .busy } = rec .busy none := by rw [hrec]
        rw [e1]
        have hkl : Keep (· = W0.heap.size + 1) w1 (w1.putObj (W0.heap.size + 1) (.loop (rec .busy none))) := (Keep.refl (· = W0.heap.size + 1) w1).put (r := W0.heap.size + 1) (.inl rfl) _
        refine wpIn_mono (hbody _ hkl) ?_
        rintro e a3 W3 ⟨rfl, hcx, hk'⟩
        have hL3 : W3.heap[W0.heap.size + 1]? = some (.loop (rec .busy none)) := (hk'.block _ (by simp; exact heap_lt hL2) hl).trans (heap_put hL2 _)
        have hD3 : W3.heap[W0.heap.size]? = some (.deferred (some [])) := by
          rw [hk'.block _ (by simp; have := hk0.size; have := heap_lt hD; omega) hd, heap_put_other (by omega), hk0.block _ (heap_lt hD) (fun h => h)]
          exact hD
        refine ⟨_, _, fin (some .ret) _ W3 rfl hL3, rfl, hxstay _ _ _ _ hcx ((Keep.refl _ _).put (.inl (by omega)) _), heap_put hL3 _, (heap_put_other (by omega) _).trans hD3⟩
    have hown0 : ¬ own0 (W0.heap.size + 1) ∧ ¬ own0 W0.heap.size := ⟨fun h => by have := hlt _ _ _ _ h0 h; omega, fun h => by have := hlt _ _ _ _ h0 h; omega⟩
    refine (raw1_any (W0.heap.size + 1) bs (W0.heap.size + 2) s J Jx hcaller W1 hs (by omega) (fun k => own0 k ∨ k = W0.heap.size + 1 ∨ k = W0.heap.size) ?_ ((hk1 (fun _ => False)).block _ (heap_lt hbs) (fun h => h) |>.trans hbs) ?_).mono ?_
    · rw [hJ]
      exact ⟨own0, rfl, hstay _ _ _ _ h0 (hk1 _), hown0.1, hown0.2, hL1, hD1⟩
    · have := heap_lt hbs
      rintro (h | h | h)
      · exact hob h
      · omega
      · omega
    · rintro e W2 ⟨⟨v, rfl⟩, (⟨acc, own, hr, hj⟩ | ⟨at_, err, he, hr, hjx⟩)⟩
      · rw [hJ] at hj
        obtain ⟨oc, rfl, hc, hl, hd, hL, hD⟩ := hj
        refine ⟨none, _, by have := run_endLoop (P := Tryz.prog) hL (by rw [hrec]; simp); rw [hrec] at this; exact this, hdone acc oc _ hr (hstay _ _ _ _ hc ((Keep.refl _ _).put (.inl ⟨by omega, hl⟩) _)) ((heap_put_other (by omega) _).trans hD)⟩
      · rw [hJx] at hjx
        obtain ⟨hcx, hL, hD⟩ := hjx
        refine ⟨some .ret, _, by have := run_endLoop (P := Tryz.prog) hL (by rw [hrec]; simp); rw [hrec] at this; exact this, ?_⟩
        refine wpIn_wide.2 ?_
        refine wp_ret ?_
        exact hret at_ err _ he hr (hxstay _ _ _ _ hcx ((Keep.refl _ _).put (.inl (by omega)) _)) ((heap_put_other (by omega) _).trans hD)
end Go.Proofs.YtfnhjdehlikbaaaGreatDoor.Lx
namespace Go.Proofs.YtfnhjdehlikbaaaGreatDoor.Lx
open Go.RowKit Go.Proofs.YtfnhjdehlikbaaaGreatDoorW.PrintWords
attribute [local go_sem] Oper.semAt_some
theorem info54 : (Tryz.prog.info? 54).map (fun i => (i.zero, i.size, i.bytes)) = some (some (.agg #[(.int .i64 0), (.int .i64 0), (.string ⟨#[]⟩), (.int .i64 0), (.int .i64 0), (.int .i64 0)]), 6, 56) := by kernel_rfl
def flat (l : List Tok) : List Value := l.flatMap fun t => t.cells.toList
theorem flat_snoc (l : List Tok) (t : Tok) : flat (l ++ [t]) = flat l ++ t.cells.toList := by simp [flat]
theorem cells_new (w : World) (cs : Array Value) (t : TypeId) : ∀ j u, cs.toList[j]? = some u → (w.alloc (.cells cs t)).cell? ((⟨w.heap.size, 0, none⟩ : Addr).add j) = some u := by
  intro j u hj
  have e : (⟨w.heap.size, 0, none⟩ : Addr).add j = ⟨w.heap.size, j, none⟩ := by unfold Addr.add; split <;> simp_all
  rw [e, cell_of (heap_new w _)]
  simpa using hj
structure RawC0 (w : World) (acc : List Tok) (v : Value) (W : World) : Prop where
  r0 : W.heap[w.heap.size]? = some (.cells #[.slice none 0 0] 34)
  r1 : W.heap[w.heap.size + 1]? = some (.cells #[.int .i64 0] 3)
  r2 : W.heap[w.heap.size + 1 + 1]? = some (.cells #[.int .i64 0] 35)
  out : W.heap[w.heap.size + 1 + 1 + 1]? = some (.cells #[v] 34)
  row : W.ownsRow (w.heap.size + 5) 54 6 v acc.length (flat acc)
  below : Below w.heap.size w W
def rawOwn (w : World) (v : Value) (k : Nat) : Prop := k = w.heap.size ∨ k = w.heap.size + 1 ∨ k = w.heap.size + 1 + 1 ∨ k = w.heap.size + 1 + 1 + 1 ∨ v.ownBlock = some k
def RawC (w : World) (acc : List Tok) (own : Nat → Prop) (W : World) : Prop := ∃ v, own = rawOwn w v ∧ RawC0 w acc v W
structure RawX (w : World) (at_ err : Int) (W : World) : Prop where
  r0 : W.heap[w.heap.size]? = some (.cells #[.slice none 0 0] 34)
  r1 : W.heap[w.heap.size + 1]? = some (.cells #[.int .i64 at_] 3)
  r2 : W.heap[w.heap.size + 1 + 1]? = some (.cells #[.int .i64 err] 35)
  below : Below w.heap.size w W
theorem RawC0.keep {w : World} {acc : List Tok} {v : Value} {W W' : World} (h : RawC0 w acc v W) {S : Nat → Prop} (hk : Keep S W W') (hS : ∀ k, S k → w.heap.size ≤ k ∧ ¬ rawOwn w v k) : RawC0 w acc v W' := by
  have e : ∀ k, k < W.heap.size → rawOwn w v k → W'.heap[k]? = W.heap[k]? := fun k hk' ho => hk.block k hk' (fun hs => (hS k hs).2 ho)
  refine ⟨(e _ (heap_lt h.r0) (.inl rfl)).trans h.r0, (e _ (heap_lt h.r1) (.inr (.inl rfl))).trans h.r1, (e _ (heap_lt h.r2) (.inr (.inr (.inl rfl)))).trans h.r2, (e _ (heap_lt h.out) (.inr (.inr (.inr (.inl rfl))))).trans h.out, ?_, ?_⟩
  · exact own_move h.row (fun k hk' => e k (own_lt h.row k hk') (.inr (.inr (.inr (.inr hk')))))
  · exact h.below.trans (hk.below h.below.size (fun i hi hs => by have := (hS i hs).1; omega))
def rawF (s : ByteArray) : List Tok × Int × Int := if (65536 : Int) < s.size then ([], 0, 11) else rawAll s
def kTok : Kd Tok := Kd.iso (Kd.pair (Kd.int .i64) (Kd.pair (Kd.int .i64) (Kd.pair Kd.string (Kd.pair (Kd.int .i64) (Kd.pair (Kd.int .i64) (Kd.int .i64)))))) (fun x : Tok => (x.kind, x.num, x.text, x.at_, x.line, x.col))
theorem kTok_mkM (w : World) (base : Nat) (ok : Nat → Prop) (x : Tok) : kTok.M w base ok x x.cells.toList := ⟨[.int .i64 x.kind], [.int .i64 x.num, .string x.text, .int .i64 x.at_, .int .i64 x.line, .int .i64 x.col], rfl, rfl, ⟨[.int .i64 x.num], [.string x.text, .int .i64 x.at_, .int .i64 x.line, .int .i64 x.col], rfl, rfl, ⟨[.string x.text], [.int .i64 x.at_, .int .i64 x.line, .int .i64 x.col], rfl, rfl, ⟨[.int .i64 x.at_], [.int .i64 x.line, .int .i64 x.col], rfl, rfl, ⟨[.int .i64 x.line], [.int .i64 x.col], rfl, rfl, rfl⟩⟩⟩⟩⟩
def TokRes (B : Nat) (w : World) (r : List Tok × Int × Int) (e : Ending) (w' : World) : Prop :=
  ∃ v, e = .returned (.tuple #[v, .int .i64 r.2.1, .int .i64 r.2.2]) ∧ Kd.R kTok 54 w' B (fun _ => True) v r.1 ∧ Below B w w'
theorem load_slice (W : World) (g : Nat) (A : Option Addr) (n c : Nat) (h : W.cell? ⟨g, 0, none⟩ = some (.slice A n c)) : (loadVar 34 ⟨g, 0, none⟩).run Tryz.prog W = .ok (.slice A n c) W := by
  go_simp
theorem load_int3 (W : World) (g : Nat) (x : Int) (h : W.cell? ⟨g, 0, none⟩ = some (.int .i64 x)) : (loadVar 3 ⟨g, 0, none⟩).run Tryz.prog W = .ok (.int .i64 x) W := by
  go_simp
theorem load_int35 (W : World) (g : Nat) (x : Int) (h : W.cell? ⟨g, 0, none⟩ = some (.int .i64 x)) : (loadVar 35 ⟨g, 0, none⟩).run Tryz.prog W = .ok (.int .i64 x) W := by
  go_simp
theorem results22 {tmps : Array Value} {W : World} {a b d : Nat} {A : Option Addr} {n c : Nat} {x y : Int} (h2 : tmps.getD 2 undef = .pointer (some ⟨a, 0, none⟩)) (h3 : tmps.getD 3 undef = .pointer (some ⟨b, 0, none⟩)) (h4 : tmps.getD 4 undef = .pointer (some ⟨d, 0, none⟩))
    (c0 : W.cell? ⟨a, 0, none⟩ = some (.slice A n c)) (c1 : W.cell? ⟨b, 0, none⟩ = some (.int .i64 x)) (c2 : W.cell? ⟨d, 0, none⟩ = some (.int .i64 y)) :
    (results Tryz.f22 tmps).run Tryz.prog W = .ok (.tuple #[.slice A n c, .int .i64 x, .int .i64 y]) W := by
  have k0 := load_slice W a A n c c0
  have k1 := load_int3 W b x c1
  have k2 := load_int35 W d y c2
  have e2 : tmps[2]?.getD undef = .pointer (some ⟨a, 0, none⟩) := by simpa using h2
  have e3 : tmps[3]?.getD undef = .pointer (some ⟨b, 0, none⟩) := by simpa using h3
  have e4 : tmps[4]?.getD undef = .pointer (some ⟨d, 0, none⟩) := by simpa using h4
  simp [results, Tryz.results22, e2, e3, e4, asAddr, k0, k1, k2]
theorem reps_flat_from (w : World) (base : Nat) (ok : Nat → Prop) : ∀ (l acc : List Tok) (cs : List Value), Reps (kTok.M w base ok) 6 acc cs → Reps (kTok.M w base ok) 6 (acc ++ l) (cs ++ flat l) := by
  intro l
  induction l with
  | nil => intro acc cs h; simpa [flat] using h
  | cons p l ih =>
    intro acc cs h
    have h1 := ih (acc ++ [p]) (cs ++ p.cells.toList) (h.snoc (kTok_mkM _ _ _ p) rfl)
    have e : flat (p :: l) = p.cells.toList ++ flat l := by simp [flat]
    rw [e]
    simpa using h1
theorem reps_flat (w : World) (base : Nat) (ok : Nat → Prop) (l : List Tok) : Reps (kTok.M w base ok) 6 l (flat l) := by
  simpa using reps_flat_from w base ok l [] [] (Reps.none _ _)
set_option maxRecDepth 100000 in
set_option maxHeartbeats 8000000 in
theorem rawF_any (s : ByteArray) (w : World) (hs : s.size ≤ 140737488351232) :
    Calls Tryz.prog 22 #[.string s] w (TokRes w.heap.size w (rawF s)) := by
  obtain ⟨i0, hi, hz0, hz1, hz2⟩ := info_parts info54
  have HI := Aside0.mk hi; clear hi
  have HZ0 := Aside0.mk hz0; clear hz0
  have HZ1 := Aside0.mk hz1; clear hz1
  have HZ2 := Aside0.mk hz2; clear hz2
  refine (callsIn_wide (n := 3)).1 ?_
  refine callsIn_of_wp_marks Tryz.func22 rfl trivial ?_ rfl
  simp only [Tryz.ntmps22, List.size_toArray, List.length_cons, List.length_nil, Nat.reduceAdd, Nat.reduceSub, Array.replicate_succ, Array.replicate_zero, List.push_toArray, List.append_toArray, List.nil_append, List.cons_append]
  refine wpIn_wide.2 ?_
  by_cases hbig : (65536 : Int) < s.size
  · have hr : rawF s = ([], 0, 11) := by unfold rawF; rw [if_pos hbig]
    rw [hr]
    clear hr
    go_wp2
    have g0 : (((w.alloc (.cells #[.slice none 0 0] 34)).alloc (.cells #[.int .i64 0] 3)).alloc (.cells #[.int .i64 11] 35)).heap[w.heap.size]? = some (.cells #[.slice none 0 0] 34) := heap_alloc (heap_alloc (heap_new w _) _) _
    have g1 : (((w.alloc (.cells #[.slice none 0 0] 34)).alloc (.cells #[.int .i64 0] 3)).alloc (.cells #[.int .i64 11] 35)).heap[w.heap.size + 1]? = some (.cells #[.int .i64 0] 3) := heap_alloc (heap_new' _ _ _ (by simp)) _
    have g2 : (((w.alloc (.cells #[.slice none 0 0] 34)).alloc (.cells #[.int .i64 0] 3)).alloc (.cells #[.int .i64 11] 35)).heap[w.heap.size + 1 + 1]? = some (.cells #[.int .i64 11] 35) := heap_new' _ _ _ (by simp)
    refine ⟨_, results22 (A := none) (n := 0) (c := 0) (x := 0) (y := 11) rfl rfl rfl (cell_of g0 0) (cell_of g1 0) (cell_of g2 0), ⟨_, rfl, Kd.R_nil _ _ _ _ _, ?_⟩⟩
    exact (((Below.refl _ w).alloc (Nat.le_refl _) _).alloc (by simp) _).alloc (by simp; omega) _
  · have hr : rawF s = rawAll s := by unfold rawF; rw [if_neg hbig]
    rw [hr]
    clear hr
    go_wp2_with (go_at_call 57; (with_reducible refine (raw_any _ _).mono ?_); rintro e w1 ⟨rfl, rfl⟩)
    refine wp_range_raw (w.heap.size + 1 + 1 + 1 + 1 + 1) (by simp) rfl rfl hs (bs := w.heap.size + 1 + 1 + 1 + 1) ?hbs (RawC w) (RawX w) (rawOwn w (.slice none 0 0)) ?h0 ?hob ?hlt ?hstay ?hxstay ?hmore ?hstop ?hdone ?hret
    case hbs => exact heap_new' _ _ _ (by simp)
    case h0 =>
      refine ⟨_, rfl, ⟨?_, ?_, ?_, ?_, ?_, ?_⟩⟩
      · exact heap_alloc (heap_alloc (heap_alloc (heap_alloc (heap_new w _) _) _) _) _
      · exact heap_alloc (heap_alloc (heap_alloc (heap_new' _ _ _ (by simp)) _) _) _
      · exact heap_alloc (heap_alloc (heap_new' _ _ _ (by simp)) _) _
      · exact heap_alloc (heap_new' _ _ _ (by simp)) _
      · exact World.ownsRow_nil _ _ _ _
      · exact (((((Below.refl _ w).alloc (Nat.le_refl _) _).alloc (by simp) _).alloc (by simp; omega) _).alloc (by simp; omega) _).alloc (by simp; omega) _
    case hob =>
      rintro (h | h | h | h | h)
      · omega
      · omega
      · omega
      · omega
      · cases h
    case hlt =>
      rintro acc own W k ⟨v, rfl, hc⟩ (rfl | rfl | rfl | rfl | h)
      · exact heap_lt hc.r0
      · exact heap_lt hc.r1
      · exact heap_lt hc.r2
      · exact heap_lt hc.out
      · exact own_lt hc.row k h
    case hstay =>
      rintro acc own W W' ⟨v, rfl, hc⟩ hk
      refine ⟨v, rfl, hc.keep hk ?_⟩
      rintro k ⟨h1, h2⟩
      refine ⟨?_, h2⟩
      simp at h1
      omega
    case hxstay =>
      rintro at_ err W W' hx hk
      have e : ∀ k, k ≤ w.heap.size + 1 + 1 → W'.heap[k]? = W.heap[k]? := fun k hk' => by
        have h2 := heap_lt hx.r2
        refine hk.block k (by omega) ?_
        simp
        omega
      exact ⟨(e _ (by omega)).trans hx.r0, (e _ (by omega)).trans hx.r1, (e _ (by omega)).trans hx.r2, hx.below.trans (hk.below hx.below.size (fun i hi h => by simp at h; omega))⟩
    case hmore =>
      rintro l acc own W ⟨tk, tn, tx, ta, tl, tc⟩ ⟨v, rfl, hc⟩ hlen hnl hlW hl0
      have hl1 : w.heap.size + 5 ≤ l := by simp at hl0; omega
      clear hl0
      simp only [Tok.cells]
      obtain ⟨A, c, rfl⟩ : ∃ A c, v = .slice A acc.length c := by
        rcases hc.row.2 with ⟨h1, h2⟩ | ⟨g, cap, cur, h1, _⟩
        · exact ⟨none, 0, by rw [h2]; exact h1⟩
        · exact ⟨_, _, h1⟩
      have HC := Aside0.mk hc; clear hc
      gi_wp2
      refine ⟨((Keep.refl _ _).alloc _).alloc _, fun w2 hk => ?_⟩
      have h6 := (hk.block W.heap.size (by simp; omega) (by omega)).trans (heap_alloc (heap_new W _) _)
      have h7 := (hk.block (W.heap.size + 1) (by simp) (by omega)).trans (heap_new' (W.alloc _) _ _ (by simp))
      have hC2 : RawC0 w acc (.slice A acc.length c) w2 := (HC.out.keep (((Keep.refl (fun _ => False) _).alloc _).alloc _) (fun _ h => h.elim)).keep hk (fun k h => by subst h; exact ⟨by omega, hnl⟩)
      have hsz2 : W.heap.size + 2 ≤ w2.heap.size := by have := hk.size; simp at this; omega
      have c60 : w2.cell? ⟨W.heap.size, 0, none⟩ = some (.int .i64 tk) := cell_of h6 0
      have c61 : w2.cell? ⟨W.heap.size, 1, none⟩ = some (.int .i64 tn) := cell_of h6 1
      have c62 : w2.cell? ⟨W.heap.size, 2, none⟩ = some (.string tx) := cell_of h6 2
      have c63 : w2.cell? ⟨W.heap.size, 3, none⟩ = some (.int .i64 ta) := cell_of h6 3
      have c64 : w2.cell? ⟨W.heap.size, 4, none⟩ = some (.int .i64 tl) := cell_of h6 4
      have c65 : w2.cell? ⟨W.heap.size, 5, none⟩ = some (.int .i64 tc) := cell_of h6 5
      have c70 : w2.cell? ⟨W.heap.size + 1, 0, none⟩ = some (.int .i64 0) := cell_of h7 0
      have c71 : w2.cell? ⟨W.heap.size + 1, 1, none⟩ = some (.int .i64 0) := cell_of h7 1
      have c5 : w2.cell? ⟨w.heap.size + 1 + 1 + 1, 0, none⟩ = some (.slice A acc.length c) := cell_of hC2.out 0
      have f5 := free_of hC2.out 0
      have HC2 := Aside0.mk hC2
      have HK := Aside0.mk hk; clear hk h6 h7 hC2
      gi_wp2_with (gi_at_builtin; refine wpListIn_append_own_at _ rfl _ _ 34 rfl (w.heap.size + 5) 54 i0 _ 6 56 Tryz.underlying34 HI.out HZ0.out HZ1.out HZ2.out rfl (by decide) (.slice A acc.length c) acc.length (flat acc) rfl (HC2.out.row.alloc _) ⟨w2.heap.size, 0, none⟩ 1 1 [.int .i64 tk, .int .i64 tn, .string tx, .int .i64 ta, .int .i64 tl, .int .i64 tc] rfl rfl (cells_new w2 #[.int .i64 tk, .int .i64 tn, .string tx, .int .i64 ta, .int .i64 tl, .int .i64 tc] 54) (by simp [Value.oneCell']) (by unfold maxLen; omega) (by omega) (by simp; omega) ?_; intro v' w3 hown' hgrow _ hat; obtain ⟨g', cap', rfl⟩ := ownsRow_succ hown'; have hb5 := (hgrow.block (w.heap.size + 1 + 1 + 1) (by have := heap_lt HC2.out.out; simp; omega) (fun h => by have := own_base HC2.out.row _ h.symm; omega)).trans (heap_alloc HC2.out.out _); have d5 : w3.cell? ⟨w.heap.size + 1 + 1 + 1, 0, none⟩ = some (.slice A acc.length c) := cell_of hb5 0; have e5 := free_of hb5 0; have HB5 := Aside0.mk hb5; clear hb5; have hO := Aside0.mk hown'; have hG := Aside0.mk hgrow; have hA := Aside0.mk hat; clear hown' hgrow hat)
      have hg2 := hG.out
      have hno : ∀ k, k < w.heap.size + 5 → (some k : Option Nat) ≠ (Value.slice A acc.length c).ownBlock := fun k hk h => by have := own_base HC2.out.row _ h.symm; omega
      have hl5 := heap_lt HC2.out.out
      have hB3 : ∀ k o, k < w.heap.size + 1 + 1 + 1 → w2.heap[k]? = some o → (w3.setCell ⟨w.heap.size + 1 + 1 + 1, 0, none⟩ (.slice (some ⟨g', 0, none⟩) (acc.length + 1) cap')).heap[k]? = some o := fun k o hk ho =>
        (heap_set_other (by simp; omega) _).trans ((hg2.block k (by have := heap_lt ho; simp; omega) (hno k (by omega))).trans (heap_alloc ho _))
      refine ⟨rawOwn w (.slice (some ⟨g', 0, none⟩) (acc.length + 1) cap'), ⟨_, rfl, ⟨hB3 _ _ (by omega) HC2.out.r0, hB3 _ _ (by omega) HC2.out.r1, hB3 _ _ (by omega) HC2.out.r2, heap_set HB5.out 0 _, ?_, ?_⟩⟩, ?_, ?_⟩
      · rw [flat_snoc, List.length_append]
        exact ownsRow_setCell_below hO.out (by simp) _
      · refine ((HC2.out.below.alloc (by omega) _).grown hg2 (by simp; omega) ?_).setCell (by simp; omega) _
        intro k hk
        have := own_base HC2.out.row _ hk
        omega
      · refine ⟨hg2.os, hg2.tape, hg2.output, ?_, ?_⟩
        · have := hg2.size
          simp [World.setCell] at this ⊢
          omega
        · intro k hk hn
          refine (heap_set_other (by rintro h; exact hn (.inr (.inr (.inr (.inl h))))) _).trans ((hg2.block k (by simp; omega) (fun h => hn (.inr (.inr (.inr (.inr h.symm)))))).trans (heap_old _ hk))
      · rintro k (h | h | h | h | h)
        · exact .inl (.inl h)
        · exact .inl (.inr (.inl h))
        · exact .inl (.inr (.inr (.inl h)))
        · exact .inl (.inr (.inr (.inr (.inl h))))
        · rcases hA.out with h1 | h1
          · exact .inl (.inr (.inr (.inr (.inr (h1.symm.trans h)))))
          · rw [h1] at h
            injection h with h
            right
            simp at h
            omega
    case hstop =>
      rintro l acc own W at_ err ⟨v, rfl, hc⟩ herr hnl hlW hl0
      have hl1 : w.heap.size + 5 ≤ l := by simp at hl0; omega
      clear hl0
      simp only [Tok.cells, tokZ]
      have HC := Aside0.mk hc; clear hc
      gi_wp2
      refine ⟨((Keep.refl _ _).alloc _).alloc _, fun w2 hk => ?_⟩
      have h7 := (hk.block (W.heap.size + 1) (by simp) (by omega)).trans (heap_new' (W.alloc _) _ _ (by simp))
      have hC2 : RawC0 w acc v w2 := (HC.out.keep (((Keep.refl (fun _ => False) _).alloc _).alloc _) (fun _ h => h.elim)).keep hk (fun k h => by subst h; exact ⟨by omega, hnl⟩)
      have hsz2 : W.heap.size + 2 ≤ w2.heap.size := by have := hk.size; simp at this; omega
      have c70 : w2.cell? ⟨W.heap.size + 1, 0, none⟩ = some (.int .i64 at_) := cell_of h7 0
      have c71 : w2.cell? ⟨W.heap.size + 1, 1, none⟩ = some (.int .i64 err) := cell_of h7 1
      have d0 : w2.cell? ⟨w.heap.size, 0, none⟩ = some (.slice none 0 0) := cell_of hC2.r0 0
      have d1 : w2.cell? ⟨w.heap.size + 1, 0, none⟩ = some (.int .i64 0) := cell_of hC2.r1 0
      have d2 : w2.cell? ⟨w.heap.size + 1 + 1, 0, none⟩ = some (.int .i64 0) := cell_of hC2.r2 0
      have f0 := free_of hC2.r0 0
      have f1 := free_of hC2.r1 0
      have f2 := free_of hC2.r2 0
      have herrb : (err == 0) = false := beq_eq_false_iff_ne.2 herr
      have hwW := heap_lt HC.out.out
      have HC2 := Aside0.mk hC2
      have HK := Aside0.mk hk; clear hk h7 hC2
      gi_wp2
      have hmix : Tryz.prog.follows .mixedOrders = true := by kernel_rfl
      gi_region_with_o (fail)
      all_goals gi_wp2
      all_goals exact ⟨⟨drew_heap ((heap_set_other (by simp; omega) _).trans ((heap_set_other (by simp) _).trans (heap_set HC2.out.r0 0 _))), drew_heap ((heap_set_other (by simp) _).trans (heap_set ((heap_set_other (by simp) _).trans HC2.out.r1) 0 _)), drew_heap (heap_set ((heap_set_other (by simp) _).trans ((heap_set_other (by simp; omega) _).trans HC2.out.r2)) 0 _), (((HC2.out.below.setCell (by simp) _).setCell (by simp) _).setCell (by simp; omega) _).drew⟩, ((((Keep.refl _ _).setCell (.inl (.inl rfl)) _).setCell (.inl (.inr (.inl rfl))) _).setCell (.inl (.inr (.inr (.inl rfl)))) _).drew⟩
    case hdone =>
      rintro acc own W hr ⟨v, rfl, hc⟩ hD
      rw [hr]
      obtain ⟨A, c, rfl⟩ : ∃ A c, v = .slice A acc.length c := by
        rcases hc.row.2 with ⟨h1, h2⟩ | ⟨g, cap, cur, h1, _⟩
        · exact ⟨none, 0, by rw [h2]; exact h1⟩
        · exact ⟨_, _, h1⟩
      have d0 : W.cell? ⟨w.heap.size, 0, none⟩ = some (.slice none 0 0) := cell_of hc.r0 0
      have d1 : W.cell? ⟨w.heap.size + 1, 0, none⟩ = some (.int .i64 0) := cell_of hc.r1 0
      have d2 : W.cell? ⟨w.heap.size + 1 + 1, 0, none⟩ = some (.int .i64 0) := cell_of hc.r2 0
      have d3 : W.cell? ⟨w.heap.size + 1 + 1 + 1, 0, none⟩ = some (.slice A acc.length c) := cell_of hc.out 0
      have f0 := free_of hc.r0 0
      have f1 := free_of hc.r1 0
      have f2 := free_of hc.r2 0
      have HC := Aside0.mk hc; clear hc
      have HD := Aside0.mk hD; clear hD
      have HR := Aside0.mk hr; clear hr
      have hown : ∀ k, (Value.slice A acc.length c).ownBlock = some k → w.heap.size + 5 ≤ k := fun k hk => own_base HC.out.row k hk
      go_wp2
      refine ⟨by simp, .inl ⟨_, _, rfl, run_takeDeferred ((heap_set_other (by simp; omega) _).trans ((heap_set_other (by simp; omega) _).trans ((heap_set_other (by simp; omega) _).trans HD.out))), ?_⟩⟩
      have g0 := (heap_put_other (r := w.heap.size + 1 + 1 + 1 + 1 + 1) (by omega) (.deferred none)).trans ((heap_set_other (a := ⟨w.heap.size + 1 + 1, 0, none⟩) (by simp; omega) (.int .i64 0)).trans ((heap_set_other (a := ⟨w.heap.size + 1, 0, none⟩) (by simp) (.int .i64 0)).trans (heap_set HC.out.r0 0 (.slice A acc.length c))))
      have g1 := (heap_put_other (r := w.heap.size + 1 + 1 + 1 + 1 + 1) (by omega) (.deferred none)).trans ((heap_set_other (a := ⟨w.heap.size + 1 + 1, 0, none⟩) (by simp) (.int .i64 0)).trans (heap_set ((heap_set_other (a := ⟨w.heap.size, 0, none⟩) (by simp) (.slice A acc.length c)).trans HC.out.r1) 0 (.int .i64 0)))
      have g2 := (heap_put_other (r := w.heap.size + 1 + 1 + 1 + 1 + 1) (by omega) (.deferred none)).trans (heap_set ((heap_set_other (a := ⟨w.heap.size + 1, 0, none⟩) (by simp) (.int .i64 0)).trans ((heap_set_other (a := ⟨w.heap.size, 0, none⟩) (by simp; omega) (.slice A acc.length c)).trans HC.out.r2)) 0 (.int .i64 0))
      refine ⟨_, results22 (A := A) (n := acc.length) (c := c) (x := 0) (y := 0) rfl rfl rfl (cell_of g0 0) (cell_of g1 0) (cell_of g2 0), ⟨_, by rw [HR.out], ?_, ?_⟩⟩
      · rw [HR.out]
        refine ⟨fun _ _ => trivial, flat acc, ?_, reps_flat _ _ _ _⟩
        · refine own_move (own_weaken HC.out.row (by omega)) (fun k hk => ?_)
          have := hown k hk
          have h5 : (some k : Option Nat) ≠ some (w.heap.size + 1 + 1 + 1 + 1 + 1) := by
            intro h
            injection h with h
            have h6 := HD.out
            obtain ⟨cells, hcc⟩ := own_typed HC.out.row k hk
            rw [h] at hcc
            rw [hcc] at h6
            cases h6
          exact (heap_put_other (fun h => h5 (by rw [h])) _).trans ((heap_set_other (by simp; omega) _).trans ((heap_set_other (by simp; omega) _).trans (heap_set_other (by simp; omega) _)))
      · exact below_put (((HC.out.below.setCell (by simp) _).setCell (by simp) _).setCell (by simp; omega) _) (by omega) _
    case hret =>
      rintro at_ err W herr hr hx hD
      rw [hr]
      have HX := Aside0.mk hx; clear hx
      have HD := Aside0.mk hD; clear hD
      refine ⟨by simp, .inl ⟨_, _, rfl, run_takeDeferred HD.out, ?_⟩⟩
      have g0 := (heap_put_other (w := W) (r := w.heap.size + 1 + 1 + 1 + 1 + 1) (by omega) (.deferred none)).trans HX.out.r0
      have g1 := (heap_put_other (w := W) (r := w.heap.size + 1 + 1 + 1 + 1 + 1) (by omega) (.deferred none)).trans HX.out.r1
      have g2 := (heap_put_other (w := W) (r := w.heap.size + 1 + 1 + 1 + 1 + 1) (by omega) (.deferred none)).trans HX.out.r2
      refine ⟨_, results22 (A := none) (n := 0) (c := 0) (x := at_) (y := err) rfl rfl rfl (cell_of g0 0) (cell_of g1 0) (cell_of g2 0), ⟨_, rfl, Kd.R_nil _ _ _ _ _, ?_⟩⟩
      exact below_put HX.out.below (by omega) _
end Go.Proofs.YtfnhjdehlikbaaaGreatDoor.Lx
namespace Go.Proofs.YtfnhjdehlikbaaaGreatDoor.Lx
open Go.RowKit Go.Proofs.YtfnhjdehlikbaaaGreatDoorW.PrintWords
def pathF (s : ByteArray) : Bool :=
  !(decide (s.toList = [])) && (isLetter (bt s 0) && (decide ((words s 0).1 = (s.size : Int)) && decide ((words s 0).2 < 0)))
theorem toList_nil {s : ByteArray} : s.toList = [] ↔ s.size = 0 := by
  constructor
  · intro h
    have h2 : s.toList.length = 0 := by rw [h]; rfl
    rwa [ByteArray.toList_eq, Array.length_toList] at h2
  · intro h
    apply List.eq_nil_of_length_eq_zero
    rwa [ByteArray.toList_eq, Array.length_toList]
set_option maxRecDepth 100000 in
set_option maxHeartbeats 4000000 in
theorem path_any (s : ByteArray) (w : World) (hs : s.size ≤ 140737488351232) :
    Calls Tryz.prog 46 #[.string s] w fun e w' => e = .returned (.bool (pathF s)) ∧ w = w' := by
  have HL := Lib.hid (letter_any (bt s 0))
  have HW := Lib.hid (fun W => words_any s 0 W hs (by omega) (by omega))
  obtain ⟨b1, b2, b3, b4⟩ := words_le s 0 (by omega) (by omega)
  by_cases c0 : s.toList = []
  · have HR : pathF s = false := by simp [pathF, c0]
    rw [HR]
    go_enter Tryz.func46, Tryz.ntmps46
    go_wp2
    go_ret
    exact ⟨rfl, rfl⟩
  · have c0b : ¬ s.size = 0 := fun h => c0 (toList_nil.2 h)
    have h0 : 0 < s.size := by omega
    have c0c : s.toList.isEmpty = false := by simpa [List.isEmpty_iff] using c0
    have HL : Aside0 (∀ W, Calls Tryz.prog 85 #[.int .u8 ((s[0]'h0).toNat : Int)] W fun e w' => e = .returned (.bool (isLetter (bt s 0))) ∧ W = w') := ⟨fun W => by
      have hx : ((s[0]'h0).toNat : Int) = bt s 0 := bt_at s 0 _
      rw [hx]
      exact HL.out W⟩
    cases c1 : isLetter (bt s 0) with
    | false =>
      have HR : pathF s = false := by simp [pathF, c1]
      rw [HR]
      have HC := Lib.hid c1; clear c1
      go_enter Tryz.func46, Tryz.ntmps46
      go_wp2_with (go_at_call 85; (with_reducible refine (HL.out _).mono ?_); rintro e w1 ⟨rfl, rfl⟩; rw [HC.out])
      go_ret
      exact ⟨rfl, rfl⟩
    | true =>
      have HC := Lib.hid c1; clear c1
      obtain ⟨R, hR⟩ : ∃ R, words s 0 = R := ⟨_, rfl⟩
      have HR : pathF s = (decide (R.1 = (s.size : Int)) && decide (R.2 < 0)) := by simp [pathF, c0, HC.out, hR]
      rw [hR] at b1 b2 b3 b4
      rw [HR]
      clear HR
      have HRR := Lib.hid hR; clear hR
      obtain ⟨k, m⟩ := R
      by_cases c2 : k = (s.size : Int)
      · subst c2
        go_enter Tryz.func46, Tryz.ntmps46
        go_wp2_with (first | (go_at_call 85; (with_reducible refine (HL.out _).mono ?_); rintro e w1 ⟨rfl, rfl⟩; rw [HC.out]) | (go_at_call 86; (with_reducible refine (HW.out _).mono ?_); rintro e w1 ⟨rfl, rfl⟩; rw [HRR.out]))
        go_ret
        exact ⟨by simp, rfl⟩
      · have HD : (decide (k = (s.size : Int)) && decide (m < 0)) = false := by simp [c2]
        simp only at HD ⊢
        rw [HD]
        go_enter Tryz.func46, Tryz.ntmps46
        go_wp2_with (first | (go_at_call 85; (with_reducible refine (HL.out _).mono ?_); rintro e w1 ⟨rfl, rfl⟩; rw [HC.out]) | (go_at_call 86; (with_reducible refine (HW.out _).mono ?_); rintro e w1 ⟨rfl, rfl⟩; rw [HRR.out]))
        go_ret
        exact ⟨rfl, rfl⟩
def onlyD (s : ByteArray) : ByteArray := if run isDigit s 0 = s.size ∧ s.size ≤ 20 then s else ⟨#[]⟩
set_option maxRecDepth 100000 in
set_option maxHeartbeats 4000000 in
theorem onlyDigits_any (s : ByteArray) (w : World) (hs : s.size ≤ 140737488351232) :
    Calls Tryz.prog 151 #[.string s] w fun e w' => e = .returned (.string (onlyD s)) ∧ w = w' := by
  have HK := Aside0.mk (fun W => run_digit s 0 W hs (by omega) (by omega))
  have hk := run_le isDigit s 0 (by omega)
  obtain ⟨k, hk2⟩ : ∃ k, run isDigit s 0 = k := ⟨_, rfl⟩
  have HKR : Aside0 (∀ W, Calls Tryz.prog 120 #[.string s, .int .i64 0, .func (.func 131) #[] #[]] W fun e w' => e = .returned (.int .i64 k) ∧ W = w') := ⟨fun W => by rw [← hk2]; exact HK.out W⟩
  rw [hk2] at hk
  by_cases c1 : k = s.size
  · by_cases c2 : s.size ≤ 20
    · have HR : onlyD s = s := by simp [onlyD, hk2, c1, c2]
      rw [HR]
      clear HR HK
      have H2 := Aside0.mk hk2; clear hk2
      subst c1
      go_enter Tryz.func151, Tryz.ntmps151
      go_wp2_with (go_at_call 120; (with_reducible refine (HKR.out _).mono ?_); rintro e w1 ⟨rfl, rfl⟩)
      go_ret
      exact ⟨rfl, rfl⟩
    · have HR : onlyD s = ⟨#[]⟩ := by simp [onlyD, c2]
      rw [HR]
      clear HR HK
      have H2 := Aside0.mk hk2; clear hk2
      subst c1
      go_enter Tryz.func151, Tryz.ntmps151
      go_wp2_with (go_at_call 120; (with_reducible refine (HKR.out _).mono ?_); rintro e w1 ⟨rfl, rfl⟩)
      go_ret
      exact ⟨rfl, rfl⟩
  · have HR : onlyD s = ⟨#[]⟩ := by simp [onlyD, hk2, c1]
    rw [HR]
    clear HR HK
    have H2 := Aside0.mk hk2; clear hk2
    have c1b : ¬ ((k : Int) = (s.size : Int)) := by omega
    go_enter Tryz.func151, Tryz.ntmps151
    go_wp2_with (go_at_call 120; (with_reducible refine (HKR.out _).mono ?_); rintro e w1 ⟨rfl, rfl⟩)
    go_ret
    exact ⟨rfl, rfl⟩
def farF (n : Int) : Bool := decide (n < 0) || decide (65536 < n)
set_option maxRecDepth 100000 in
set_option maxHeartbeats 4000000 in
theorem far_any (n : Int) (w : World) :
    Calls Tryz.prog 140 #[.int .i64 n] w fun e w' => e = .returned (.bool (farF n)) ∧ w = w' := by
  by_cases c1 : n < 0
  · have HR : farF n = true := by simp [farF, c1]
    rw [HR]
    go_enter Tryz.func140, Tryz.ntmps140
    go_wp2
    go_ret
    exact ⟨rfl, rfl⟩
  · have HR : farF n = decide (n > 65536) := by simp [farF, c1]
    rw [HR]
    go_enter Tryz.func140, Tryz.ntmps140
    go_wp2
    go_ret
    exact ⟨rfl, rfl⟩
end Go.Proofs.YtfnhjdehlikbaaaGreatDoor.Lx
namespace Go.Proofs.YtfnhjdehlikbaaaGreatDoor.Lx
open Go.RowKit Go.Proofs.YtfnhjdehlikbaaaGreatDoorW.PrintWords
structure Lev where
  block : Bool
  col : Int
  text : ByteArray
def Lev.cells (v : Lev) : Array Value := #[.bool v.block, .int .i64 v.col, .string v.text]
def lev0 : Lev := ⟨false, 0, ⟨#[]⟩⟩
def flatL (l : List Lev) : List Value := l.flatMap fun t => t.cells.toList
theorem flatL_snoc (l : List Lev) (t : Lev) : flatL (l ++ [t]) = flatL l ++ t.cells.toList := by simp [flatL]
theorem flatL_len (l : List Lev) : (flatL l).length = l.length * 3 := by
  induction l with
  | nil => rfl
  | cons a l ih => simp [flatL, Lev.cells] at ih ⊢; omega
structure LayAt (B y : Nat) (f : Value) (st : List Lev) (vs : Value) (out : List Tok) (vo : Value) (W : World) : Prop where
  cell : W.heap[y]? = some (.cells #[vs, vo, f] 134)
  stack : W.ownsRow B 171 3 vs st.length (flatL st)
  out : W.ownsRow B 54 6 vo out.length (flat out)
  base : y < B
def layOwn (y : Nat) (vs vo : Value) (k : Nat) : Prop := k = y ∨ vs.ownBlock = some k ∨ vo.ownBlock = some k
def LaySt (B y : Nat) (f : Value) (st : List Lev) (out : List Tok) (own : Nat → Prop) (W : World) : Prop := ∃ vs vo, own = layOwn y vs vo ∧ LayAt B y f st vs out vo W
def LayTo (B y : Nat) (f : Value) (st : List Lev) (out : List Tok) (own : Nat → Prop) (w w' : World) : Prop :=
  ∃ own', LaySt B y f st out own' w' ∧ Keep own w w' ∧ ∀ k, own' k → own k ∨ w.heap.size ≤ k
theorem LayAt.lt {B y : Nat} {f : Value} {st : List Lev} {vs : Value} {out : List Tok} {vo : Value} {W : World} (h : LayAt B y f st vs out vo W) : ∀ k, layOwn y vs vo k → k < W.heap.size := by
  rintro k (rfl | hk | hk)
  · exact heap_lt h.cell
  · exact (h.stack.lt k hk).2
  · exact (h.out.lt k hk).2
theorem LayAt.keep {B y : Nat} {f : Value} {st : List Lev} {vs : Value} {out : List Tok} {vo : Value} {W W' : World} (h : LayAt B y f st vs out vo W) {S : Nat → Prop} (hk : Keep S W W') (hS : ∀ k, S k → ¬ layOwn y vs vo k) : LayAt B y f st vs out vo W' := by
  have e : ∀ k, layOwn y vs vo k → W'.heap[k]? = W.heap[k]? := fun k ho => hk.block k (h.lt k ho) (fun hs => hS k hs ho)
  exact ⟨(e _ (.inl rfl)).trans h.cell, own_move h.stack (fun k hk' => e k (.inr (.inl hk'))), own_move h.out (fun k hk' => e k (.inr (.inr hk'))), h.base⟩
theorem LaySt.keep {B y : Nat} {f : Value} {st : List Lev} {out : List Tok} {own : Nat → Prop} {W W' : World} (h : LaySt B y f st out own W) {S : Nat → Prop} (hk : Keep S W W') (hS : ∀ k, S k → ¬ own k) : LaySt B y f st out own W' := by
  obtain ⟨vs, vo, rfl, h⟩ := h
  exact ⟨vs, vo, rfl, h.keep hk hS⟩
theorem LayTo.trans {B y : Nat} {f : Value} {st3 : List Lev} {out3 : List Tok} {own own2 : Nat → Prop} {w1 w2 w3 : World}
    (hs : ∀ k, own2 k → own k ∨ w1.heap.size ≤ k) (hk : Keep own w1 w2) (h : LayTo B y f st3 out3 own2 w2 w3) : LayTo B y f st3 out3 own w1 w3 := by
  obtain ⟨own3, h3, hk3, hs3⟩ := h
  refine ⟨own3, h3, hk.then hk3 (fun i hi h => ?_), fun k hk' => ?_⟩
  · rcases hs i h with h | h
    · exact h
    · omega
  · rcases hs3 k hk' with h | h
    · exact hs k h
    · exact .inr (Nat.le_trans hk.size h)
theorem size171 (v0 v1 v2 : Value) : (Tryz.prog.info? 171).map (·.size) = some (#[v0, v1, v2] : Array Value).size := by
  have h : (Tryz.prog.info? 171).map (·.size) = some 3 := by kernel_rfl
  rw [h]; rfl
def topF (st : List Lev) : Lev := st.getLast?.getD lev0
set_option maxRecDepth 100000 in
set_option maxHeartbeats 4000000 in
theorem top_any (B y : Nat) (f : Value) (st : List Lev) (out : List Tok) (own : Nat → Prop) (w : World) (h : LaySt B y f st out own w) :
    Calls Tryz.prog 127 #[.pointer (some ⟨y, 0, none⟩)] w fun e w' => e = .returned (.agg (topF st).cells) ∧ Below w.heap.size w w' := by
  obtain ⟨vs, vo, rfl, h⟩ := h
  have hbase := h.base
  have hy := heap_lt h.cell
  rcases List.eq_nil_or_concat st with rfl | ⟨st, t, rfl⟩
  · have e0 : vs = .slice none 0 0 ∨ ∃ g c, vs = .slice (some ⟨g, 0, none⟩) 0 c := by
      rcases h.stack.2 with ⟨h1, _⟩ | ⟨g, cap, cur, h1, _⟩
      · exact .inl h1
      · exact .inr ⟨g, cap, h1⟩
    obtain ⟨A, c, rfl⟩ : ∃ A c, vs = .slice A 0 c := by
      rcases e0 with rfl | ⟨g, c, rfl⟩
      · exact ⟨_, _, rfl⟩
      · exact ⟨_, _, rfl⟩
    have c0 : (w.alloc (.cells #[.bool false, .int .i64 0, .string ⟨#[]⟩] 171)).cell? ⟨y, 0, none⟩ = some (.slice A 0 c) := cell_of (heap_alloc h.cell _) 0
    have H := Aside0.mk h; clear h
    go_enter Tryz.func127, Tryz.ntmps127
    go_wp2
    exact bodyPost_ret (v := .agg lev0.cells) (results_cell_row rfl _ _ w.heap.size 171 _ (0, 0) _ rfl (heap_new w _) Tryz.underlying171 rfl (size171 _ _ _)) rfl ⟨rfl, (Below.refl _ w).alloc (Nat.le_refl _) _⟩
  · rw [List.concat_eq_append] at h ⊢
    have hl : (st ++ [t]).length = st.length + 1 := by simp
    obtain ⟨g, c, rfl⟩ : ∃ g c, vs = .slice (some ⟨g, 0, none⟩) (st.length + 1) c := by
      rcases h.stack.2 with ⟨_, h1⟩ | ⟨g, cap, cur, h1, _⟩
      · omega
      · exact ⟨g, cap, by rw [h1, hl]⟩
    have hcs := (h.stack.alloc (.cells #[.bool false, .int .i64 0, .string ⟨#[]⟩] 171)).cells rfl
    rw [flatL_snoc] at hcs
    have hT : topF (st ++ [t]) = t := by simp [topF]
    have hf := flatL_len st
    have e : ∀ j, (⟨g, 0, none⟩ : Addr).add j = ⟨g, j, none⟩ := fun j => by unfold Addr.add; split <;> simp_all
    have c1 := hcs (st.length * 3) (.bool t.block) (by simp [hf, Lev.cells])
    have c2 := hcs (st.length * 3 + 1) (.int .i64 t.col) (by simp [hf, Lev.cells])
    have c3 := hcs (st.length * 3 + 2) (.string t.text) (by simp [hf, Lev.cells])
    rw [e] at c1 c2 c3
    rw [hT]
    have hn2 : st.length + 1 ≤ maxLen := by
      rcases h.stack.2 with ⟨h1, _⟩ | ⟨g', cap, cur, h1, _, _, h2, h3, _⟩
      · cases h1
      · omega
    unfold maxLen at hn2
    have c0 : (w.alloc (.cells #[.bool false, .int .i64 0, .string ⟨#[]⟩] 171)).cell? ⟨y, 0, none⟩ = some (.slice (some ⟨g, 0, none⟩) (st.length + 1) c) := cell_of (heap_alloc h.cell _) 0
    have H := Aside0.mk h; clear h
    clear hcs e hf hT hl
    generalize st.length = n at c1 c2 c3 hn2 c0
    go_enter Tryz.func127, Tryz.ntmps127
    go_wp2
    go_region
    go_wp2
    exact bodyPost_ret (v := .agg t.cells) (results_cell_row rfl _ _ w.heap.size 171 _ (0, 0) _ rfl (drew_heap (heap_new w _)) Tryz.underlying171 rfl (size171 _ _ _)) rfl ⟨rfl, ((Below.refl _ w).alloc (Nat.le_refl _) _).drew⟩
end Go.Proofs.YtfnhjdehlikbaaaGreatDoor.Lx
namespace Go.Proofs.YtfnhjdehlikbaaaGreatDoor.Lx
open Go.RowKit Go.Proofs.YtfnhjdehlikbaaaGreatDoorW.PrintWords
theorem LayAt.apart {B y : Nat} {f : Value} {st : List Lev} {vs : Value} {out : List Tok} {vo : Value} {W : World} (h : LayAt B y f st vs out vo W) (k : Nat) (h1 : vs.ownBlock = some k) (h2 : vo.ownBlock = some k) : False := by
  rcases h.stack.2 with ⟨rfl, _⟩ | ⟨g, cap, cur, rfl, _, a, _⟩
  · simp [Value.ownBlock] at h1
  · rcases h.out.2 with ⟨rfl, _⟩ | ⟨g', cap', cur', rfl, _, a', _⟩
    · simp [Value.ownBlock] at h2
    · simp [Value.ownBlock] at h1 h2
      subst h1; subst h2
      rw [a] at a'
      simp at a'
theorem LayAt.put {B y : Nat} {f : Value} {st : List Lev} {vs : Value} {out out' : List Tok} {vo vo' : Value} {w W : World} (h : LayAt B y f st vs out vo w)
    (hG : w.grownBy W vo.ownBlock) (hO : W.ownsRow B 54 6 vo' out'.length (flat out')) (hA : vo'.ownBlock = vo.ownBlock ∨ vo'.ownBlock = some w.heap.size) :
    LayTo B y f st out' (layOwn y vs vo) w (W.setCell ⟨y, 1, none⟩ vo') := by
  have hbase := h.base
  have hy := heap_lt h.cell
  have hyo : some y ≠ vo.ownBlock := fun e => by have := own_base h.out y e.symm; omega
  have hc : W.heap[y]? = some (.cells #[vs, vo, f] 134) := (hG.block y hy hyo).trans h.cell
  refine ⟨layOwn y vs vo', ⟨vs, vo', rfl, ⟨heap_set hc 1 vo', ?_, ownsRow_setCell_below hO (by simp; omega) _, hbase⟩⟩, ⟨hG.os, hG.tape, hG.output, ?_, ?_⟩, ?_⟩
  · refine own_move h.stack (fun k hk => ?_)
    have h1 := own_base h.stack k hk
    exact (heap_set_other (by simp; omega) _).trans (hG.block k (own_lt h.stack k hk) (fun e => h.apart k hk e.symm))
  · have := hG.size
    simp [World.setCell] at this ⊢
    omega
  · intro k hk hn
    exact (heap_set_other (fun e => hn (.inl e)) _).trans (hG.block k hk (fun e => hn (.inr (.inr e.symm))))
  · rintro k (e | e | e)
    · exact .inl (.inl e)
    · exact .inl (.inr (.inl e))
    · rcases hA with h1 | h1
      · exact .inl (.inr (.inr (h1.symm.trans e)))
      · rw [h1] at e
        injection e with e
        exact .inr (by omega)
set_option maxRecDepth 100000 in
set_option maxHeartbeats 4000000 in
theorem put_any (B y : Nat) (f : Value) (st : List Lev) (out : List Tok) (own : Nat → Prop) (w : World) (h : LaySt B y f st out own w)
    (t : Tok) (ad : Addr) (c : Nat) (hnews : ∀ j u, t.cells.toList[j]? = some u → w.cell? (ad.add j) = some u) (hlen : out.length ≤ 1000000000) (hB : B ≤ w.heap.size) :
    Calls Tryz.prog 123 #[.pointer (some ⟨y, 0, none⟩), .slice (some ad) 1 c] w fun e w' => e = .returned (.tuple #[]) ∧ LayTo B y f st (out ++ [t]) own w w' := by
  obtain ⟨i0, hi, hz0, hz1, hz2⟩ := info_parts info54
  have HI := Aside0.mk hi; clear hi
  have HZ0 := Aside0.mk hz0; clear hz0
  have HZ1 := Aside0.mk hz1; clear hz1
  have HZ2 := Aside0.mk hz2; clear hz2
  obtain ⟨vs, vo, rfl, h⟩ := h
  have hbase := h.base
  have hy := heap_lt h.cell
  obtain ⟨A, n, rfl⟩ : ∃ A n, vo = .slice A out.length n := by
    rcases h.out.2 with ⟨h1, h2⟩ | ⟨g, cap, cur, h1, _⟩
    · exact ⟨none, 0, by rw [h2]; exact h1⟩
    · exact ⟨_, _, h1⟩
  have c0 : w.cell? ⟨y, 1, none⟩ = some (.slice A out.length n) := cell_of h.cell 1
  have f0 := free_of h.cell 1
  have H := Aside0.mk h; clear h
  have HN := Aside0.mk hnews; clear hnews
  go_enter Tryz.func123, Tryz.ntmps123
  go_wp2_with (at_builtin; refine wpList_append_own_at _ rfl _ _ 34 rfl B 54 i0 _ 6 56 Tryz.underlying34 HI.out HZ0.out HZ1.out HZ2.out rfl (by decide) (.slice A out.length n) out.length (flat out) rfl H.out.out ad 1 c t.cells.toList rfl rfl HN.out (by simp [Tok.cells, Value.oneCell']) (by unfold maxLen; omega) (by omega) hB ?_; intro v' w3 hown' hgrow _ hat; obtain ⟨g', cap', rfl⟩ := ownsRow_succ hown'; have hb5 := (hgrow.block y hy (fun h => by have := own_base H.out.out _ h.symm; omega)).trans H.out.cell; have d5 := cell_of hb5 1; simp only [List.getElem?_toArray, List.getElem?_cons_succ, List.getElem?_cons_zero] at d5; have e5 := free_of hb5 1; have HB5 := Aside0.mk hb5; clear hb5; have hO := Aside0.mk hown'; have hG := Aside0.mk hgrow; have hA := Aside0.mk hat; clear hown' hgrow hat)
  go_end0
  refine ⟨rfl, H.out.put hG.out ?_ hA.out⟩
  rw [flat_snoc, List.length_append]
  exact hO.out
end Go.Proofs.YtfnhjdehlikbaaaGreatDoor.Lx
namespace Go.Proofs.YtfnhjdehlikbaaaGreatDoor.Lx
open Go.RowKit Go.Proofs.YtfnhjdehlikbaaaGreatDoorW.PrintWords
theorem run_copy_wide (w : World) (dT sT ty elem : TypeId) (k n : Nat) (g dLen dCap : Nat) (a : Addr) (sLen sCap : Nat) (cur : Array Value) (t : TypeId) (cs : List Value)
    (hu : Tryz.prog.underlying dT = some (.slice elem)) (hs : (Tryz.prog.info? elem).map (·.size) = some k)
    (hg : w.heap[g]? = some (.cells cur t (0, 0))) (hn : n = Nat.min sLen dLen) (hc : cs.length = n * k)
    (hsrc : ∀ j v, cs[j]? = some v → w.cell? (a.add j) = some v) (hfit : cs.length = cur.size) (h1 : ∀ v ∈ cs, v.oneCell' = true) :
    (Builtin.copy_ #[dT, sT] ty #[.slice (some ⟨g, 0, none⟩) dLen dCap, .slice (some a) sLen sCap]).run Tryz.prog w =
      .ok (goInt n) (w.setRow g cs.toArray) := by
  have hl := run_loadCells_list (P := Tryz.prog) w a cs hsrc
  have hst := run_storeCells_at Tryz.prog g 0 t cs 0 cur w hg (by simp; omega) h1
  have e : cur.toList.drop (0 + 0 + cs.length) = [] := by
    apply List.drop_eq_nil_of_le
    simp
    omega
  rw [e] at hst
  rw [hc] at hl
  cases hq : Tryz.prog.info? elem with
  | none => simp [hq] at hs
  | some i =>
    have hi : i.size = k := by simpa [hq] using hs
    simp [Builtin.copy_, run_underlying hu, Builtin.lenOf, Builtin.firstCells, sizeOf, typeInfo, hq, hi, ← hn, hl] at hst ⊢
    simp [hst]
theorem owned_cells {w : World} {B e size : Nat} {g n n' cap : Nat} {xs : List Value} (h : w.ownsRow B e size (.slice (some ⟨g, 0, none⟩) n' cap) n xs) : ∃ cur, w.heap[g]? = some (.cells cur e (0, 0)) ∧ cur.size = cap * size := by
  rcases h.2 with ⟨h1, _⟩ | ⟨g', cap', cur, h1, _, h2, _, _, h3, _⟩
  · cases h1
  · simp at h1
    obtain ⟨rfl, _, rfl⟩ := h1
    exact ⟨cur, h2, h3⟩
theorem addr_block (a : Addr) (n : Nat) : (a.add n).block = a.block := by unfold Addr.add; split <;> rfl
theorem size171' : (Tryz.prog.info? 171).map (·.size) = some 3 := by kernel_rfl
theorem LayAt.swap {B y : Nat} {f : Value} {st st' : List Lev} {vs vs' : Value} {out : List Tok} {vo : Value} {w W : World} (h : LayAt B y f st vs out vo w)
    (hG : w.grownBy W vs.ownBlock) (hO : W.ownsRow B 171 3 vs' st'.length (flatL st')) (hA : ∀ k, vs'.ownBlock = some k → vs.ownBlock = some k ∨ w.heap.size ≤ k) :
    LayTo B y f st' out (layOwn y vs vo) w (W.setCell ⟨y, 0, none⟩ vs') := by
  have hbase := h.base
  have hy := heap_lt h.cell
  have hyo : some y ≠ vs.ownBlock := fun e => by have := own_base h.stack y e.symm; omega
  have hc : W.heap[y]? = some (.cells #[vs, vo, f] 134) := (hG.block y hy hyo).trans h.cell
  refine ⟨layOwn y vs' vo, ⟨vs', vo, rfl, ⟨heap_set hc 0 vs', ownsRow_setCell_below hO (by simp; omega) _, ?_, hbase⟩⟩, ⟨hG.os, hG.tape, hG.output, ?_, ?_⟩, ?_⟩
  · refine own_move h.out (fun k hk => ?_)
    have h1 := own_base h.out k hk
    exact (heap_set_other (by simp; omega) _).trans (hG.block k (own_lt h.out k hk) (fun e => h.apart k e.symm hk))
  · have := hG.size
    simp [World.setCell] at this ⊢
    omega
  · intro k hk hn
    exact (heap_set_other (fun e => hn (.inl e)) _).trans (hG.block k hk (fun e => hn (.inr (.inl e.symm))))
  · rintro k (e | e | e)
    · exact .inl (.inl e)
    · rcases hA k e with h1 | h1
      · exact .inl (.inr (.inl h1))
      · exact .inr h1
    · exact .inl (.inr (.inr e))
theorem info171 : (Tryz.prog.info? 171).map (fun i => (i.zero, i.size, i.bytes)) = some (some (.agg #[.bool false, (.int .i64 0), (.string ⟨#[]⟩)]), 3, 32) := by kernel_rfl
set_option maxRecDepth 100000 in
set_option maxHeartbeats 4000000 in
theorem pop_any (B y : Nat) (f : Value) (st : List Lev) (t : Lev) (out : List Tok) (own : Nat → Prop) (w : World) (h : LaySt B y f (st ++ [t]) out own w)
    (hlen : st.length ≤ 1000000000) (hB : B ≤ w.heap.size) :
    Calls Tryz.prog 128 #[.pointer (some ⟨y, 0, none⟩)] w fun e w' => e = .returned (.tuple #[]) ∧ LayTo B y f st out own w w' := by
  obtain ⟨i0, hi, hz0, hz1, hz2⟩ := info_parts info171
  have HI := Aside0.mk hi; clear hi
  have HZ0 := Aside0.mk hz0; clear hz0
  have HZ1 := Aside0.mk hz1; clear hz1
  have HZ2 := Aside0.mk hz2; clear hz2
  obtain ⟨vs, vo, rfl, h⟩ := h
  have hbase := h.base
  have hy := heap_lt h.cell
  have hl : (st ++ [t]).length = st.length + 1 := by simp
  obtain ⟨g, c, rfl⟩ : ∃ g c, vs = .slice (some ⟨g, 0, none⟩) (st.length + 1) c := by
    rcases h.stack.2 with ⟨_, h1⟩ | ⟨g, cap, cur, h1, _⟩
    · omega
    · exact ⟨g, cap, by rw [h1, hl]⟩
  have hcs := h.stack.cells rfl
  rw [flatL_snoc] at hcs
  have hf := flatL_len st
  have hsrc : ∀ j v, (flatL st)[j]? = some v → w.cell? ((⟨g, 0, none⟩ : Addr).add j) = some v := fun j v hv => hcs j v (by
    rw [List.getElem?_append_left (by have := (List.getElem?_eq_some_iff.1 hv).1; omega)]
    exact hv)
  clear hcs
  have hone : ∀ v ∈ flatL st, v.oneCell' = true := by
    intro v hv
    simp only [flatL, List.mem_flatMap] at hv
    obtain ⟨x, _, hx⟩ := hv
    simp [Lev.cells] at hx
    rcases hx with rfl | rfl | rfl <;> simp [Value.oneCell']
  have c0 : w.cell? ⟨y, 0, none⟩ = some (.slice (some ⟨g, 0, none⟩) (st.length + 1) c) := cell_of h.cell 0
  have f0 := free_of h.cell 0
  have H := Aside0.mk h; clear h
  have HS := Aside0.mk hsrc; clear hsrc
  have H1 := Aside0.mk hone; clear hone
  have HF := Aside0.mk hf; clear hf hl
  obtain ⟨n, hn⟩ : ∃ n, st.length = n := ⟨_, rfl⟩
  rw [hn] at c0 hlen
  have HN := Aside0.mk hn; clear hn
  go_enter Tryz.func128, Tryz.ntmps128
  go_wp2_with (first | (at_make; refine wpList_make_full _ rfl _ _ 132 rfl B 171 i0 _ 3 Tryz.underlying132 HI.out HZ0.out HZ1.out .i64 .i64 _ _ n rfl rfl (by omega) (by omega) (by rw [HZ2.out]; omega) (by unfold maxLen; omega) hB ?_; intro w2 hown hgrow; have hb2 := (hgrow.block y hy (by simp)).trans H.out.cell; have c2 := cell_of hb2 0; simp only [List.getElem?_toArray, List.getElem?_cons_zero, HN.out] at c2; have f2 := free_of hb2 0; obtain ⟨cur, hcur, hsz⟩ := owned_cells hown; have hgl := own_lt H.out.stack g rfl; have HSRC : Aside0 (∀ (j : Nat) (v : Value), (flatL st)[j]? = some v → w2.cell? ((⟨g, 0, none⟩ : Addr).add j) = some v) := ⟨fun j v hv => (World.cell?_of_block (hgrow.block _ (by rw [addr_block]; exact hgl) (by simp))).trans (HS.out j v hv)⟩; have HB2 := Aside0.mk hb2; have HCU := Aside0.mk hcur; have HSZ := Aside0.mk hsz; have hG := Aside0.mk hgrow; have hcopy := run_copy_wide w2 132 132 3 171 3 n w.heap.size n n ⟨g, 0, none⟩ (n + 1) c cur 171 (flatL st) Tryz.underlying132 size171' hcur (by simp [Nat.min_def]) (by rw [HF.out, HN.out]) HSRC.out (by rw [hsz, HF.out, HN.out]) H1.out; obtain ⟨w3, hw3⟩ : ∃ w3, w2.setRow w.heap.size (flatL st).toArray = w3 := ⟨_, rfl⟩; rw [hw3] at hcopy; have hb3 : w3.heap[y]? = some (.cells #[.slice (some ⟨g, 0, none⟩) (st.length + 1) c, vo, f] 134) := (by rw [← hw3]; exact (setRow_other _ _ _ _ (by omega)).trans HB2.out); have f3 := free_of hb3 0; have c3 := cell_of hb3 0; simp only [List.getElem?_toArray, List.getElem?_cons_zero, HN.out] at c3; have HB3 := Aside0.mk hb3; have HW3 := Aside0.mk hw3; have HCU := Aside0.mk hcur; have HG := Aside0.mk hgrow; clear hb2 hb3 hw3 hcur hsz hown hgrow))
  go_end0
  refine ⟨rfl, H.out.swap ?_ ?_ (fun k hk => .inr (by simp [Value.ownBlock] at hk; omega))⟩
  · rw [← HW3.out]
    have hg := HG.out
    refine ⟨hg.os, hg.tape, hg.output, ?_, fun k hk _ => ?_⟩
    · have := hg.size
      simpa [World.setRow] using this
    · exact (setRow_other _ _ _ _ (by omega)).trans (hg.block k hk (by simp))
  · rw [← HW3.out, HN.out]
    exact ⟨by rw [HF.out, HN.out], .inr ⟨w.heap.size, n, _, rfl, hB, setRow_heap _ _ _ _ _ _ HCU.out, Nat.le_refl _, by unfold maxLen; omega, by simp [HF.out, HN.out], by simp; rw [List.take_of_length_le (by rw [HF.out, HN.out]; omega)]⟩⟩
end Go.Proofs.YtfnhjdehlikbaaaGreatDoor.Lx
namespace Go.Proofs.YtfnhjdehlikbaaaGreatDoor.Lx
open Go.RowKit Go.Proofs.YtfnhjdehlikbaaaGreatDoorW.PrintWords
attribute [local go_sem] Oper.semAt_some
theorem grown_undrew {w w' : World} {r : Option Nat} (h : w.drew.grownBy w' r) : w.grownBy w' r := ⟨h.os, h.tape, h.output, h.size, h.block⟩
def markF (k : Int) (t : Tok) : Tok := ⟨k, 0, ⟨#[]⟩, t.at_, t.line, t.col⟩
set_option maxRecDepth 100000 in
set_option maxHeartbeats 4000000 in
theorem mark_any (k : Int) (t : Tok) (w : World) : Calls Tryz.prog 124 #[.int .i64 k, .agg t.cells] w fun e w' => e = .returned (.agg (markF k t).cells) ∧ Below w.heap.size w w' := by
  obtain ⟨tk, tn, tx, ta, tl, tc⟩ := t
  simp only [Tok.cells, markF]
  go_enter Tryz.func124, Tryz.ntmps124
  go_wp2
  refine bodyPost_ret (results_cell_row rfl _ _ (w.heap.size + 1) 54 _ (0, 0) _ rfl (heap_new' _ _ _ (by simp)) Tryz.underlying54 rfl (size54 _ _ _ _ _ _)) rfl ⟨rfl, ?_⟩
  exact ((Below.refl _ w).alloc (Nat.le_refl _) _).alloc (by simp) _
set_option maxRecDepth 100000 in
set_option maxHeartbeats 8000000 in
theorem open_any (B y : Nat) (f : Value) (st : List Lev) (out : List Tok) (own : Nat → Prop) (w : World) (h : LaySt B y f st out own w)
    (t : Tok) (hlen : out.length ≤ 1000000000) (hst : st.length ≤ 1000000000) (hB : B ≤ w.heap.size) :
    Calls Tryz.prog 91 #[.pointer (some ⟨y, 0, none⟩), .agg t.cells] w fun e w' => e = .returned (.tuple #[]) ∧ LayTo B y f (st ++ [⟨true, t.col, ⟨#[]⟩⟩]) (out ++ [markF 5 t]) own w w' := by
  obtain ⟨tk, tn, tx, ta, tl, tc⟩ := t
  simp only [Tok.cells]
  obtain ⟨i0, hi, hz0, hz1, hz2⟩ := info_parts info171
  have HI := Aside0.mk hi; clear hi
  have HZ0 := Aside0.mk hz0; clear hz0
  have HZ1 := Aside0.mk hz1; clear hz1
  have HZ2 := Aside0.mk hz2; clear hz2
  have HM : Aside0 (∀ W, Calls Tryz.prog 124 #[.int .i64 5, .agg #[.int .i64 tk, .int .i64 tn, .string tx, .int .i64 ta, .int .i64 tl, .int .i64 tc]] W fun e w' => e = .returned (.agg #[.int .i64 5, .int .i64 0, .string ⟨#[]⟩, .int .i64 ta, .int .i64 tl, .int .i64 tc]) ∧ Below W.heap.size W w') := ⟨fun W => mark_any 5 ⟨tk, tn, tx, ta, tl, tc⟩ W⟩
  have HS := Aside0.mk h; clear h
  go_enter Tryz.func91, Tryz.ntmps91
  go_wp2_with (first | (go_at_call 124; (with_reducible refine (HM.out _).mono ?_); rintro e w1 ⟨rfl, hb1⟩; have HB1 := Aside0.mk hb1; clear hb1) | (go_at_call 123; have hk1 := ((Keep.refl (fun _ => False) w).alloc _).then (Keep.of_below HB1.out) (fun _ _ h => h); have HK1 := Aside0.mk (hk1.alloc (.cells #[.int .i64 5, .int .i64 0, .string ⟨#[]⟩, .int .i64 ta, .int .i64 tl, .int .i64 tc] 54)); clear hk1; refine (put_any B y f st out own _ (HS.out.keep HK1.out (fun _ h => h.elim)) ⟨5, 0, ⟨#[]⟩, ta, tl, tc⟩ ⟨w1.heap.size, 0, none⟩ 1 (cells_new w1 #[.int .i64 5, .int .i64 0, .string ⟨#[]⟩, .int .i64 ta, .int .i64 tl, .int .i64 tc] 54) hlen (Nat.le_trans hB HK1.out.size)).mono ?_; rintro e w2 ⟨rfl, hto⟩))
  have hlt : ∀ k, own k → k < w.heap.size := by
    obtain ⟨vs, vo, rfl, h⟩ := HS.out
    exact h.lt
  obtain ⟨own2, ⟨vs2, vo2, rfl, h2⟩, hk2, hs2⟩ := hto
  have hbase := h2.base
  have hy := heap_lt h2.cell
  obtain ⟨A, n, rfl⟩ : ∃ A n, vs2 = .slice A st.length n := by
    rcases h2.stack.2 with ⟨h1, h2⟩ | ⟨g, cap, cur, h1, _⟩
    · exact ⟨none, 0, by rw [h2]; exact h1⟩
    · exact ⟨_, _, h1⟩
  have hb0 : w2.heap[w.heap.size]? = some (.cells #[.int .i64 tk, .int .i64 tn, .string tx, .int .i64 ta, .int .i64 tl, .int .i64 tc] 54) := by
    have e1 := heap_alloc (HB1.out.block w.heap.size (by simp) |>.trans (heap_new w (.cells #[.int .i64 tk, .int .i64 tn, .string tx, .int .i64 ta, .int .i64 tl, .int .i64 tc] 54))) (.cells #[.int .i64 5, .int .i64 0, .string ⟨#[]⟩, .int .i64 ta, .int .i64 tl, .int .i64 tc] 54)
    exact (hk2.block _ (heap_lt e1) (fun ho => by have := hlt _ ho; omega)).trans e1
  have c5 : w2.cell? ⟨w.heap.size, 5, none⟩ = some (.int .i64 tc) := cell_of hb0 5
  have c0 : w2.cell? ⟨y, 0, none⟩ = some (.slice A st.length n) := cell_of h2.cell 0
  have f0 := free_of h2.cell 0
  have hB2 : B ≤ w2.heap.size := Nat.le_trans hB (Nat.le_trans HK1.out.size hk2.size)
  have H2 := Aside0.mk h2; clear h2
  have HK2 := Aside0.mk hk2; clear hk2
  have HS2 := Aside0.mk hs2; clear hs2
  have HB0 := Aside0.mk hb0; clear hb0
  have HLT := Aside0.mk hlt; clear hlt
  go_region_law ((refine step_append_lies _ (by rfl) _ _ 132 (by rfl) B 171 i0 _ 3 32 Tryz.underlying132 HI.out HZ0.out HZ1.out HZ2.out rfl (by decide) (.slice A st.length n) st.length (flatL st) (by rfl) (H2.out.stack.alloc _) ⟨w2.heap.size, 0, none⟩ 1 1 [.bool true, .int .i64 tc, .string ⟨#[]⟩] (by rfl) rfl (cells_new w2 #[.bool true, .int .i64 tc, .string ⟨#[]⟩] 171) (by simp [Value.oneCell']) (by decide) (by unfold maxLen; omega) (by omega) (by simp; omega) (w2.heap.size + 1) (by simp) ?_; intro g cap w3 hown hgrow hat hlt3; have hb5 := (hgrow.block y (by simp; omega) (fun h => by have := own_base H2.out.stack _ h.symm; omega)).trans (heap_alloc H2.out.cell _); have d5 := cell_of hb5 0; have e5 := free_of hb5 0; have HB5 := Aside0.mk hb5; clear hb5; have HO := Aside0.mk hown; have HG := Aside0.mk hgrow; have HA := Aside0.mk hat; clear hown hgrow hat))
  all_goals go_wp2
  all_goals go_end0
  all_goals
    refine ⟨rfl, LayTo.trans (fun k hk => (HS2.out k hk).imp_right (Nat.le_trans HK1.out.size)) ((HK1.out.mono (fun _ h => h.elim)).trans HK2.out) (H2.out.swap ((World.grownBy_alloc w2 _ _).trans (grown_undrew HG.out)) ?_ ?_)⟩
    · rw [flatL_snoc, List.length_append]
      exact HO.out
    · intro k hk
      simp [Value.ownBlock] at hk
      rcases HA.out with h1 | h1
      · exact .inl (by rw [h1, hk])
      · exact .inr (by omega)
end Go.Proofs.YtfnhjdehlikbaaaGreatDoor.Lx
