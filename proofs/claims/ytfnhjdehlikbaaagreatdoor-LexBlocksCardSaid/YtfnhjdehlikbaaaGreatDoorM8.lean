import Derived.Test.YtfnhjdehlikbaaaGreatDoorM5
import Derived.Test.YtfnhjdehlikbaaaGreatDoorM4
set_option linter.unusedVariables false
set_option linter.unusedSimpArgs false
/- The reference's Path (47); equal rows of tokens (29). -/
namespace Go.Proofs.YtfnhjdehlikbaaaGreatDoor.Lx
open Go.RowKit Go.Proofs.YtfnhjdehlikbaaaGreatDoorW.PrintWords

/-- What Path makes of what is cut. -/
def isPath (s : ByteArray) (k : Int) (t : ByteArray) (wrong : Int) (is : Bool) : Bool := is && (t.size == s.size && (decide (wrong < 0) && (k == 1 || k == 4)))

set_option maxRecDepth 100000 in
set_option maxHeartbeats 8000000 in
theorem isPath_at (s : ByteArray) (r1 r2 : Int) (r3 : ByteArray) (r7 : Int) (r8 : Bool) (w : World) (h : ∀ W, CutTo s 0 W r1 r2 r3 r7 r8) :
    Calls Tryz.prog 47 #[.string s] w fun e w' => e = .returned (.bool (isPath s r1 r3 r7 r8)) ∧ Below w.heap.size w w' := by
  have HC : Aside0 (∀ W : World, Calls Tryz.prog 81 #[.string s, .int .i64 0] W fun e w' => e = .returned (.tuple #[.agg #[.int .i64 r1, .int .i64 r2, .string r3, .int .i64 0, .int .i64 0, .int .i64 0], .int .i64 r7, .bool r8]) ∧ Below W.heap.size W w') := ⟨h⟩
  clear h
  unfold isPath
  cases r8 with
  | false =>
    go_enter Tryz.func47, Tryz.ntmps47
    go_wp2_with (go_at_call 81; (with_reducible refine (HC.out _).mono ?_); rintro e w1 ⟨rfl, hb⟩; have HB := Aside0.mk hb; clear hb)
    repeat (go_quiet (fail); try go_wp2)
    go_ret
    exact ⟨rfl, HB.out.alloc HB.out.size _⟩
  | true =>
    by_cases c1 : (r3.size : Int) = (s.size : Int)
    · have c1b : ((r3.size : Int) == (s.size : Int)) = true := beq_iff_eq.mpr c1
      have c1n : (r3.size == s.size) = true := by rw [Int.ofNat_inj.1 c1]; exact beq_self_eq_true _
      clear c1
      by_cases c2 : r7 < 0
      · have c2b : decide (r7 < 0) = true := decide_eq_true c2
        clear c2
        by_cases c3 : r1 = 1
        · have c3b : (r1 == 1) = true := beq_iff_eq.mpr c3
          clear c3
          go_enter Tryz.func47, Tryz.ntmps47
          go_wp2_with (go_at_call 81; (with_reducible refine (HC.out _).mono ?_); rintro e w1 ⟨rfl, hb⟩; have HB := Aside0.mk hb; clear hb)
          repeat (go_quiet (fail); try go_wp2)
          go_ret
          exact ⟨by simp [*], HB.out.alloc HB.out.size _⟩
        · have c3b : (r1 == 1) = false := beq_eq_false_iff_ne.mpr c3
          clear c3
          go_enter Tryz.func47, Tryz.ntmps47
          go_wp2_with (go_at_call 81; (with_reducible refine (HC.out _).mono ?_); rintro e w1 ⟨rfl, hb⟩; have HB := Aside0.mk hb; clear hb)
          repeat (go_quiet (fail); try go_wp2)
          go_ret
          exact ⟨by simp [*], HB.out.alloc HB.out.size _⟩
      · have c2b : decide (r7 < 0) = false := decide_eq_false c2
        clear c2
        go_enter Tryz.func47, Tryz.ntmps47
        go_wp2_with (go_at_call 81; (with_reducible refine (HC.out _).mono ?_); rintro e w1 ⟨rfl, hb⟩; have HB := Aside0.mk hb; clear hb)
        repeat (go_quiet (fail); try go_wp2)
        go_ret
        exact ⟨by simp [*], HB.out.alloc HB.out.size _⟩
    · have c1b : ((r3.size : Int) == (s.size : Int)) = false := beq_eq_false_iff_ne.mpr c1
      have c1n : (r3.size == s.size) = false := beq_eq_false_iff_ne.mpr (fun h => c1 (by rw [h]))
      clear c1
      go_enter Tryz.func47, Tryz.ntmps47
      go_wp2_with (go_at_call 81; (with_reducible refine (HC.out _).mono ?_); rintro e w1 ⟨rfl, hb⟩; have HB := Aside0.mk hb; clear hb)
      repeat (go_quiet (fail); try go_wp2)
      go_ret
      exact ⟨by simp [*], HB.out.alloc HB.out.size _⟩

theorem path_cut (s : ByteArray) (hs : s.size ≤ 140737488351000) : ∃ r1 r2 r3 r7 r8, (∀ W, CutTo s 0 W r1 r2 r3 r7 r8) ∧ isPath s r1 r3 r7 r8 = pathF s := by
  by_cases h0 : s.size = 0
  · refine ⟨0, 0, ⟨#[]⟩, -1, false, fun W => cut_end s 0 W (by omega), ?_⟩
    unfold pathF isPath
    rw [toList_nil.2 h0]
    rfl
  · have hpos : (0 : Int) < s.size := by omega
    have hnil : decide (s.toList = []) = false := decide_eq_false (fun h => h0 (toList_nil.1 h))
    have hc := refCut_any s hs 0 (by omega) hpos
    have hk := kind_eq s 0
    by_cases hkz : kindOf (bt s 0) = 0
    · rw [if_pos hkz] at hc
      have hl : isLetter (bt s 0) = false := by
        cases hh : isLetter (bt s 0) with
        | false => rfl
        | true => rw [hh, if_pos rfl] at hk; omega
      refine ⟨0, 0, ⟨#[]⟩, -1, false, hc, ?_⟩
      unfold pathF isPath
      rw [hl]
      simp
    · rw [if_neg hkz] at hc
      obtain ⟨v, _, hev⟩ := hc
      refine ⟨_, _, _, _, _, hev, ?_⟩
      by_cases hl : isLetter (bt s 0) = true
      · rw [if_pos hl] at hk
        rw [hk]
        obtain ⟨b1, b2, b3, b4⟩ := words_le s 0 (by omega) (by omega)
        have hn : nextOf s 0 1 = nextWord s 0 := rfl
        rw [hn]
        unfold nextWord pathF isPath
        simp only
        rw [extract_size _ _ _ (by omega) (by omega), hnil, hl]
        generalize (words s 0) = W at *
        obtain ⟨n, bad⟩ := W
        simp only at *
        have e1 : ((0 + n).toNat - (0 : Int).toNat == s.size) = decide (n = (s.size : Int)) := by
          by_cases h1 : n = (s.size : Int)
          · rw [decide_eq_true h1, beq_iff_eq]; omega
          · rw [decide_eq_false h1, beq_eq_false_iff_ne]; omega
        have e2 : decide (ab 0 bad < 0) = decide (bad < 0) := by
          by_cases h2 : bad < 0
          · rw [ab_neg h2, decide_eq_true h2]; rfl
          · rw [ab_pos (by omega), decide_eq_false h2, decide_eq_false (by omega)]
        rw [e1, e2]
        have e3 : ∀ b : Bool, (((if b = true then 4 else 1 : Int) == 1) || ((if b = true then 4 else 1 : Int) == 4)) = true := by decide
        rw [e3]
        simp
      · rw [if_neg hl] at hk
        have hp : pathF s = false := by unfold pathF; rw [show isLetter (bt s 0) = false by simpa using hl]; simp
        rw [hp]
        have hkk : (nextOf s 0 (kindOf (bt s 0))).1.kind = 2 ∨ (nextOf s 0 (kindOf (bt s 0))).1.kind = 3 := by
          split at hk
          · rw [hk]; left; rfl
          · split at hk
            · rw [hk]; right; rfl
            · exact absurd hk hkz
        unfold isPath
        rcases hkk with h | h <;> rw [h] <;> simp

theorem refPath_any (s : ByteArray) (w : World) (hs : s.size ≤ 140737488351000) : Calls Tryz.prog 47 #[.string s] w fun e w' => e = .returned (.bool (pathF s)) ∧ Below w.heap.size w w' := by
  obtain ⟨r1, r2, r3, r7, r8, hc, hp⟩ := path_cut s hs
  rw [← hp]
  exact isPath_at s r1 r2 r3 r7 r8 w hc

/-- Tokens of the call's own can be read. -/
theorem srcC_reads {W : World} {B : Nat} {v : Value} {l : List Tok} (h : Kd.R kTok 54 W B (fun _ => True) v l) : ∃ A c, v = .slice A l.length c ∧ l.length ≤ c ∧ SrcC A l W := by
  obtain ⟨A, c, hv, hT⟩ := srcT_of_R h
  obtain ⟨A2, c2, hv2, hc2, _⟩ := Kd.R_reads h
  rw [hv] at hv2
  injection hv2 with e1 e2 e3
  subst e1 e3
  exact ⟨A, c, hv, hc2, hT.srcC⟩

set_option maxRecDepth 100000 in
set_option maxHeartbeats 8000000 in
theorem equal_any (l : List Tok) (hl : l.length ≤ 1000000) (A0 A1 : Option Addr) (c0 c1 : Nat) (w : World) (h0 : SrcC A0 l w) (hc0 : l.length ≤ c0) (h1 : SrcC A1 l w) (hc1 : l.length ≤ c1) :
    Calls Tryz.prog 29 #[.slice A0 l.length c0, .slice A1 l.length c1] w fun e w' => e = .returned (.bool true) ∧ Below w.heap.size w w' := by
  have HS0 := Aside0.mk h0
  have HS1 := Aside0.mk h1
  clear h0 h1
  obtain ⟨n, hn⟩ : ∃ n, l.length = n := ⟨_, rfl⟩
  rw [hn] at hl hc0 hc1 ⊢
  have HN := Aside0.mk hn; clear hn
  have c3b0 : ((n : Int) == (n : Int)) = true := beq_self_eq_true _
  have c3b1 : ((n : Int) != (n : Int)) = false := bne_self_eq_false _
  go_enter Tryz.func29, Tryz.ntmps29
  go_wp2
  repeat (go_quiet (fail); try go_wp2)
  go_loopg [13] n (fun f t13 wr => ∃ (i : Nat), t13 = .int .i64 (i : Int) ∧ i + f = n ∧ Aside0 (Below w.heap.size w wr))
  case atStart => exact ⟨0, rfl, by omega, ⟨Below.refl _ _⟩⟩
  case round =>
    obtain ⟨i, rfl, hif, hB⟩ := hrel
    have HB := Aside0.mk hB.out
    clear hB
    by_cases hi : i < n
    · cases gk with
      | zero => omega
      | succ f =>
        have hlt : i < l.length := by rw [HN.out]; exact hi
        have hti := List.getElem?_eq_getElem hlt
        obtain ⟨g0, e0, x0, x1, x2, x3, x4, x5⟩ := (HS0.out.below HB.out) i _ hti
        obtain ⟨g1, e1, y0, y1, y2, y3, y4, y5⟩ := (HS1.out.below HB.out) i _ hti
        subst e0 e1
        generalize l[i] = t at x0 x1 x2 x3 x4 x5 y0 y1 y2 y3 y4 y5
        obtain ⟨tk, tn, tx, ta, tl, tc⟩ := t
        simp only at x0 x1 x2 x3 x4 x5 y0 y1 y2 y3 y4 y5
        have c8b0 : (!(tk == tk) || (!(tn == tn) || (!(tx.toList == tx.toList) || (!(ta == ta) || (!(tl == tl) || (!(tc == tc))))))) = false := by simp
        have hi2 : (i : Int) < (n : Int) := by omega
        clear hti hlt
        go_wp2
        repeat (go_quiet (fail); try go_wp2)
        go_roundg f
        case measure => omega
        case rel => exact ⟨i + 1, by go_num, by omega, by first | exact HB | exact ⟨HB.out.trans ((bdrewN _ _).mono HB.out.size)⟩⟩
    · obtain rfl : i = n := by omega
      go_wp2
      repeat (go_quiet (fail); try go_wp2)
      go_ret
      exact ⟨rfl, HB.out⟩

end Go.Proofs.YtfnhjdehlikbaaaGreatDoor.Lx

/- The reference's small functions: virtual (109), closing (110), pair (111), opening (112). -/
namespace Go.Proofs.YtfnhjdehlikbaaaGreatDoor.Lx
open Go.RowKit Go.Proofs.YtfnhjdehlikbaaaGreatDoorW.PrintWords

/-- Small numbers. -/
def SmallT (t : Tok) : Prop := 0 ≤ t.at_ ∧ t.at_ ≤ 65536 ∧ 0 ≤ t.line ∧ t.line ≤ 65536 ∧ 0 ≤ t.col ∧ t.col ≤ 65536 ∧ t.text.size ≤ 65536

set_option maxRecDepth 100000 in
set_option maxHeartbeats 4000000 in
theorem virtual_any (k : Int) (l : List Tok) (A : Option Addr) (c i : Nat) (w : World) (hl : l.length ≤ 5000) (hi : i ≤ l.length) (hs : ∀ t ∈ l, SmallT t) (hT : SrcC A l w) :
    Calls Tryz.prog 109 #[.int .i64 k, .slice A l.length c, .int .i64 (i : Int)] w fun e w' => e = .returned (.agg (markF k (l[i]?.getD (endT l))).cells) ∧ Below w.heap.size w w' := by
  by_cases hlt : i < l.length
  · have hti := List.getElem?_eq_getElem hlt
    obtain ⟨g, hAg, q0, q1, q2, q3, q4, q5⟩ := hT i _ hti
    rw [hti, Option.getD_some]
    generalize l[i] = t at q0 q1 q2 q3 q4 q5
    subst hAg
    obtain ⟨tk, tn, tx, ta, tl, tc⟩ := t
    simp only [markF, Tok.cells] at q0 q1 q2 q3 q4 q5 ⊢
    have hg : g < w.heap.size := World.block_lt_of_cell? _ _ q0
    have hlen : (i : Int) < (l.length : Int) := by omega
    clear hT hti hlt hs
    generalize l.length = n at *
    go_enter Tryz.func109, Tryz.ntmps109
    go_wp2
    refine bodyPost_ret (results_cell_row rfl _ _ w.heap.size 121 _ (0, 0) _ rfl (heap_alloc (heap_new w _) _) Tryz.underlying121 rfl (size121 _ _ _ _ _ _)) rfl ⟨rfl, ?_⟩
    exact ((Below.refl _ w).alloc (Nat.le_refl _) _).alloc (by simp) _
  · obtain rfl : i = l.length := by omega
    rw [List.getElem?_eq_none (by omega), Option.getD_none]
    rcases List.eq_nil_or_concat l with rfl | ⟨l, t, rfl⟩
    · simp only [List.length_nil, endT, List.getLast?_nil, markF, Tok.cells]
      go_enter Tryz.func109, Tryz.ntmps109
      go_wp2
      refine bodyPost_ret (results_cell_row rfl _ _ w.heap.size 121 _ (0, 0) _ rfl (heap_alloc (heap_new w _) _) Tryz.underlying121 rfl (size121 _ _ _ _ _ _)) rfl ⟨rfl, ?_⟩
      exact ((Below.refl _ w).alloc (Nat.le_refl _) _).alloc (by simp) _
    · rw [List.concat_eq_append] at *
      have hst := hs t (by simp)
      have hti : (l ++ [t])[l.length]? = some t := by simp
      obtain ⟨g, hAg, q0, q1, q2, q3, q4, q5⟩ := hT l.length _ hti
      have he : endT (l ++ [t]) = { t with at_ := t.at_ + t.text.size, col := t.col + t.text.size } := by unfold endT; simp
      rw [he]
      subst hAg
      obtain ⟨tk, tn, tx, ta, tl, tc⟩ := t
      obtain ⟨s1, s2, s3, s4, s5, s6, s7⟩ := hst
      simp only [markF, Tok.cells] at q0 q1 q2 q3 q4 q5 s1 s2 s3 s4 s5 s6 s7 ⊢
      have hg : g < w.heap.size := World.block_lt_of_cell? _ _ q0
      have hlen : (l ++ [(⟨tk, tn, tx, ta, tl, tc⟩ : Tok)]).length = l.length + 1 := by simp
      rw [hlen] at hl ⊢
      clear hT hti hlt hs he hi hlen
      generalize l.length = n at *
      go_enter Tryz.func109, Tryz.ntmps109
      go_wp2
      refine bodyPost_ret (results_cell_row rfl _ _ w.heap.size 121 _ (0, 0) _ rfl (heap_alloc (heap_alloc (heap_new w _) _) _) Tryz.underlying121 rfl (size121 _ _ _ _ _ _)) rfl ⟨rfl, ?_⟩
      exact (((Below.refl _ w).alloc (Nat.le_refl _) _).alloc (by simp) _).alloc (by simp; omega) _

/-- Strings in a block can be read. -/
theorem has_in (l : List ByteArray) (s : ByteArray) (g c : Nat) (W : World) {cs : Array Value} {t : TypeId} {f : Nat × Nat} (hl : l.length ≤ 1000000) (h : W.heap[g]? = some (.cells cs t f)) (hc : cs.toList = l.map Value.string) :
    Calls Tryz.prog 83 #[.slice (some ⟨g, 0, none⟩) l.length c, .string s] W fun e w' => e = .returned (.bool (among l s)) ∧ Below W.heap.size W w' :=
  (refHas_any l s g c W hl (fun k x hk => by rw [cell_of h, ← Array.getElem?_toList, hc]; simp [hk])).mono fun e w' ⟨he, hd⟩ => ⟨he, by rw [hd]; exact Below.refl _ _⟩

set_option maxRecDepth 100000 in
set_option maxHeartbeats 4000000 in
theorem refClosing_any (t : Tok) (w : World) : Calls Tryz.prog 110 #[.agg t.cells] w fun e w' => e = .returned (.bool (among closers t.text)) ∧ Below w.heap.size w w' := by
  obtain ⟨tk, tn, tx, ta, tl, tc⟩ := t
  have HH : Aside0 (∀ W, W.heap[w.heap.size + 1]? = some (.cells #[.string ⟨#[41]⟩, .string ⟨#[125]⟩, .string ⟨#[105, 110]⟩, .string ⟨#[119, 105, 116, 104]⟩] 9) → Calls Tryz.prog 83 #[.slice (some ⟨w.heap.size + 1, 0, none⟩) 4 4, .string tx] W fun e w' => e = .returned (.bool (among closers tx)) ∧ Below W.heap.size W w') := ⟨fun W h => has_in closers tx (w.heap.size + 1) 4 W (by decide) h rfl⟩
  simp only [Tok.cells]
  go_enter Tryz.func110, Tryz.ntmps110
  go_wp2_with (go_at_call 83; refine (HH.out _ (heap_new' _ _ _ (by simp))).mono ?_; rintro e w1 ⟨rfl, hb⟩; have HB := Aside0.mk hb; clear hb)
  go_ret
  exact ⟨rfl, (((Below.refl _ w).alloc (Nat.le_refl _) _).alloc (by simp) _).trans (HB.out.mono (by simp; omega))⟩
set_option maxRecDepth 100000 in
set_option maxHeartbeats 4000000 in
theorem refOpening_any (t : Tok) (w : World) : Calls Tryz.prog 112 #[.agg t.cells] w fun e w' => e = .returned (.bool (among openers t.text)) ∧ Below w.heap.size w w' := by
  obtain ⟨tk, tn, tx, ta, tl, tc⟩ := t
  have HH : Aside0 (∀ W, W.heap[w.heap.size + 1]? = some (.cells #[.string ⟨#[40]⟩, .string ⟨#[123]⟩, .string ⟨#[108, 101, 116]⟩, .string ⟨#[109, 97, 116, 99, 104]⟩, .string ⟨#[104, 97, 110, 100, 108, 101]⟩, .string ⟨#[97, 98, 105, 108, 105, 116, 121]⟩] 9) → Calls Tryz.prog 83 #[.slice (some ⟨w.heap.size + 1, 0, none⟩) 6 6, .string tx] W fun e w' => e = .returned (.bool (among openers tx)) ∧ Below W.heap.size W w') := ⟨fun W h => has_in openers tx (w.heap.size + 1) 6 W (by decide) h rfl⟩
  simp only [Tok.cells]
  go_enter Tryz.func112, Tryz.ntmps112
  go_wp2_with (go_at_call 83; refine (HH.out _ (heap_new' _ _ _ (by simp))).mono ?_; rintro e w1 ⟨rfl, hb⟩; have HB := Aside0.mk hb; clear hb)
  go_ret
  exact ⟨rfl, (((Below.refl _ w).alloc (Nat.le_refl _) _).alloc (by simp) _).trans (HB.out.mono (by simp; omega))⟩

theorem closesF_at (b a : ByteArray) : closesF b a = ((a.toList == [40] && b.toList == [41]) || ((a.toList == [123] && b.toList == [125]) || ((a.toList == [108, 101, 116] && b.toList == [105, 110]) || ((a.toList == [109, 97, 116, 99, 104] || (a.toList == [104, 97, 110, 100, 108, 101] || a.toList == [97, 98, 105, 108, 105, 116, 121])) && b.toList == [119, 105, 116, 104])))) := by
  unfold closesF sq
  by_cases h1 : b.toList = [41]
  · simp [h1]
  · by_cases h2 : b.toList = [125]
    · simp [h2]
    · by_cases h3 : b.toList = [105, 110]
      · simp [h3]
      · by_cases h4 : b.toList = [119, 105, 116, 104]
        · simp [h4]
        · simp [h1, h2, h3, h4]
set_option maxRecDepth 100000 in
set_option maxHeartbeats 4000000 in
theorem pair_any (a b : ByteArray) (w : World) : Calls Tryz.prog 111 #[.string a, .string b] w fun e w' => e = .returned (.bool (closesF b a)) ∧ w = w' := by
  rw [closesF_at]
  by_cases h0 : a.toList = [40]
  · have p0 : (a.toList == [40]) = true := by rw [h0]; rfl
    have p1 : (a.toList == [123]) = false := by rw [h0]; rfl
    have p2 : (a.toList == [108, 101, 116]) = false := by rw [h0]; rfl
    have p3 : (a.toList == [109, 97, 116, 99, 104]) = false := by rw [h0]; rfl
    have p4 : (a.toList == [104, 97, 110, 100, 108, 101]) = false := by rw [h0]; rfl
    have p5 : (a.toList == [97, 98, 105, 108, 105, 116, 121]) = false := by rw [h0]; rfl
    clear h0
    cases q : (b.toList == [41])
    · go_enter Tryz.func111, Tryz.ntmps111
      go_wp2
      go_ret
      exact ⟨by simp [p0, p1, p2, p3, p4, p5, q], rfl⟩
    · go_enter Tryz.func111, Tryz.ntmps111
      go_wp2
      go_ret
      exact ⟨by simp [p0, p1, p2, p3, p4, p5, q], rfl⟩
  · by_cases h1 : a.toList = [123]
    · have p1 : (a.toList == [123]) = true := by rw [h1]; rfl
      have p0 : (a.toList == [40]) = false := beq_eq_false_iff_ne.mpr h0
      have p2 : (a.toList == [108, 101, 116]) = false := by rw [h1]; rfl
      have p3 : (a.toList == [109, 97, 116, 99, 104]) = false := by rw [h1]; rfl
      have p4 : (a.toList == [104, 97, 110, 100, 108, 101]) = false := by rw [h1]; rfl
      have p5 : (a.toList == [97, 98, 105, 108, 105, 116, 121]) = false := by rw [h1]; rfl
      clear h0 h1
      cases q : (b.toList == [125])
      · go_enter Tryz.func111, Tryz.ntmps111
        go_wp2
        go_ret
        exact ⟨by simp [p0, p1, p2, p3, p4, p5, q], rfl⟩
      · go_enter Tryz.func111, Tryz.ntmps111
        go_wp2
        go_ret
        exact ⟨by simp [p0, p1, p2, p3, p4, p5, q], rfl⟩
    · by_cases h2 : a.toList = [108, 101, 116]
      · have p2 : (a.toList == [108, 101, 116]) = true := by rw [h2]; rfl
        have p0 : (a.toList == [40]) = false := beq_eq_false_iff_ne.mpr h0
        have p1 : (a.toList == [123]) = false := beq_eq_false_iff_ne.mpr h1
        have p3 : (a.toList == [109, 97, 116, 99, 104]) = false := by rw [h2]; rfl
        have p4 : (a.toList == [104, 97, 110, 100, 108, 101]) = false := by rw [h2]; rfl
        have p5 : (a.toList == [97, 98, 105, 108, 105, 116, 121]) = false := by rw [h2]; rfl
        clear h0 h1 h2
        cases q : (b.toList == [105, 110])
        · go_enter Tryz.func111, Tryz.ntmps111
          go_wp2
          go_ret
          exact ⟨by simp [p0, p1, p2, p3, p4, p5, q], rfl⟩
        · go_enter Tryz.func111, Tryz.ntmps111
          go_wp2
          go_ret
          exact ⟨by simp [p0, p1, p2, p3, p4, p5, q], rfl⟩
      · by_cases h3 : a.toList = [109, 97, 116, 99, 104]
        · have p3 : (a.toList == [109, 97, 116, 99, 104]) = true := by rw [h3]; rfl
          have p0 : (a.toList == [40]) = false := beq_eq_false_iff_ne.mpr h0
          have p1 : (a.toList == [123]) = false := beq_eq_false_iff_ne.mpr h1
          have p2 : (a.toList == [108, 101, 116]) = false := beq_eq_false_iff_ne.mpr h2
          have p4 : (a.toList == [104, 97, 110, 100, 108, 101]) = false := by rw [h3]; rfl
          have p5 : (a.toList == [97, 98, 105, 108, 105, 116, 121]) = false := by rw [h3]; rfl
          clear h0 h1 h2 h3
          cases q : (b.toList == [119, 105, 116, 104])
          · go_enter Tryz.func111, Tryz.ntmps111
            go_wp2
            go_ret
            exact ⟨by simp [p0, p1, p2, p3, p4, p5, q], rfl⟩
          · go_enter Tryz.func111, Tryz.ntmps111
            go_wp2
            go_ret
            exact ⟨by simp [p0, p1, p2, p3, p4, p5, q], rfl⟩
        · by_cases h4 : a.toList = [104, 97, 110, 100, 108, 101]
          · have p4 : (a.toList == [104, 97, 110, 100, 108, 101]) = true := by rw [h4]; rfl
            have p0 : (a.toList == [40]) = false := beq_eq_false_iff_ne.mpr h0
            have p1 : (a.toList == [123]) = false := beq_eq_false_iff_ne.mpr h1
            have p2 : (a.toList == [108, 101, 116]) = false := beq_eq_false_iff_ne.mpr h2
            have p3 : (a.toList == [109, 97, 116, 99, 104]) = false := beq_eq_false_iff_ne.mpr h3
            have p5 : (a.toList == [97, 98, 105, 108, 105, 116, 121]) = false := by rw [h4]; rfl
            clear h0 h1 h2 h3 h4
            cases q : (b.toList == [119, 105, 116, 104])
            · go_enter Tryz.func111, Tryz.ntmps111
              go_wp2
              go_ret
              exact ⟨by simp [p0, p1, p2, p3, p4, p5, q], rfl⟩
            · go_enter Tryz.func111, Tryz.ntmps111
              go_wp2
              go_ret
              exact ⟨by simp [p0, p1, p2, p3, p4, p5, q], rfl⟩
          · by_cases h5 : a.toList = [97, 98, 105, 108, 105, 116, 121]
            · have p5 : (a.toList == [97, 98, 105, 108, 105, 116, 121]) = true := by rw [h5]; rfl
              have p0 : (a.toList == [40]) = false := beq_eq_false_iff_ne.mpr h0
              have p1 : (a.toList == [123]) = false := beq_eq_false_iff_ne.mpr h1
              have p2 : (a.toList == [108, 101, 116]) = false := beq_eq_false_iff_ne.mpr h2
              have p3 : (a.toList == [109, 97, 116, 99, 104]) = false := beq_eq_false_iff_ne.mpr h3
              have p4 : (a.toList == [104, 97, 110, 100, 108, 101]) = false := beq_eq_false_iff_ne.mpr h4
              clear h0 h1 h2 h3 h4 h5
              cases q : (b.toList == [119, 105, 116, 104])
              · go_enter Tryz.func111, Tryz.ntmps111
                go_wp2
                go_ret
                exact ⟨by simp [p0, p1, p2, p3, p4, p5, q], rfl⟩
              · go_enter Tryz.func111, Tryz.ntmps111
                go_wp2
                go_ret
                exact ⟨by simp [p0, p1, p2, p3, p4, p5, q], rfl⟩
            · have p0 : (a.toList == [40]) = false := beq_eq_false_iff_ne.mpr h0
              have p1 : (a.toList == [123]) = false := beq_eq_false_iff_ne.mpr h1
              have p2 : (a.toList == [108, 101, 116]) = false := beq_eq_false_iff_ne.mpr h2
              have p3 : (a.toList == [109, 97, 116, 99, 104]) = false := beq_eq_false_iff_ne.mpr h3
              have p4 : (a.toList == [104, 97, 110, 100, 108, 101]) = false := beq_eq_false_iff_ne.mpr h4
              have p5 : (a.toList == [97, 98, 105, 108, 105, 116, 121]) = false := beq_eq_false_iff_ne.mpr h5
              clear h0 h1 h2 h3 h4 h5
              go_enter Tryz.func111, Tryz.ntmps111
              go_wp2
              go_ret
              exact ⟨by simp [p0, p1, p2, p3, p4, p5], rfl⟩

end Go.Proofs.YtfnhjdehlikbaaaGreatDoor.Lx

/- The reference's stack and tokens in memory; highest (113). -/
namespace Go.Proofs.YtfnhjdehlikbaaaGreatDoor.Lx
open Go.RowKit Go.Proofs.YtfnhjdehlikbaaaGreatDoorW.PrintWords

/-- The column of the highest block of a stack. -/
def highF (st : List Lev) : Int := match st.reverse.find? (·.block) with | some v => v.col | none => -1
theorem highF_snoc (st : List Lev) (v : Lev) : highF (st ++ [v]) = if v.block = true then v.col else highF st := by
  unfold highF
  rw [List.reverse_append, List.reverse_singleton, List.singleton_append, List.find?_cons]
  cases v.block <;> rfl

theorem flatL_at : ∀ (st : List Lev) (i j : Nat) (v : Lev), st[i]? = some v → j < 3 → (flatL st)[i * 3 + j]? = v.cells.toList[j]? := by
  intro st
  induction st with
  | nil => intro i j v h; simp at h
  | cons a st ih =>
    intro i j v h hj
    have e : flatL (a :: st) = a.cells.toList ++ flatL st := by simp [flatL]
    rw [e]
    have ha : a.cells.toList.length = 3 := rfl
    cases i with
    | zero =>
      simp at h
      subst h
      rw [Nat.zero_mul, Nat.zero_add, List.getElem?_append_left (by omega)]
    | succ i =>
      simp at h
      rw [List.getElem?_append_right (by omega), ← ih i j v h hj]
      congr 1
      omega
theorem levAt_of {W : World} {B ty : Nat} {vs : Value} {st : List Lev} (h : W.ownsRow B ty 3 vs st.length (flatL st)) : ∃ A c, vs = .slice A st.length c ∧ LevAt A st W := by
  rcases h.2 with ⟨h1, h2⟩ | ⟨g, cap, cur, h1, _⟩
  · refine ⟨none, 0, by rw [h2]; exact h1, fun i v hv => ?_⟩
    rw [List.eq_nil_of_length_eq_zero h2] at hv
    simp at hv
  · subst h1
    refine ⟨_, _, rfl, fun i v hv => ⟨g, rfl, ?_⟩⟩
    have hcs := h.cells rfl
    have e : ∀ k, (⟨g, 0, none⟩ : Addr).add k = ⟨g, k, none⟩ := fun k => by unfold Addr.add; split <;> simp_all
    have r : ∀ j u, j < 3 → v.cells.toList[j]? = some u → W.cell? ⟨g, i * 3 + j, none⟩ = some u := fun j u hj hu => by
      rw [← e]
      exact hcs _ _ ((flatL_at st i j v hv hj).trans hu)
    exact ⟨r 0 _ (by omega) rfl, r 1 _ (by omega) rfl, r 2 _ (by omega) rfl⟩

set_option maxRecDepth 100000 in
set_option maxHeartbeats 4000000 in
theorem highest_any (st : List Lev) (A : Option Addr) (c : Nat) (w : World) (hl : st.length ≤ 1000000) (h : LevAt A st w) :
    Calls Tryz.prog 113 #[.slice A st.length c] w fun e w' => e = .returned (.int .i64 (highF st)) ∧ w = w' := by
  have H := Aside0.mk h; clear h
  obtain ⟨n, hn⟩ : ∃ n, st.length = n := ⟨_, rfl⟩
  rw [hn] at hl ⊢
  have HN := Aside0.mk hn; clear hn
  obtain ⟨r, hr⟩ : ∃ r, highF st = r := ⟨_, rfl⟩
  rw [hr]
  have HR := Aside0.mk hr; clear hr
  have w1 : IntKind.i64.wrap ((n : Int) - 1) = (n : Int) - 1 := IntWalk.i64_in _ (by omega)
  go_enter Tryz.func113, Tryz.ntmps113
  go_wp2
  go_loopg [3] (n + 1) (fun f t3 wr => wr = w ∧ ∃ (m : Nat) (i : Int), t3 = .int .i64 i ∧ i = (m : Int) - 1 ∧ m + 1 = f ∧ m ≤ n ∧ Aside0 (highF (st.take m) = r))
  case atStart => exact ⟨rfl, n, _, rfl, rfl, rfl, Nat.le_refl _, ⟨by rw [List.take_of_length_le (by rw [HN.out]; exact Nat.le_refl _)]; exact HR.out⟩⟩
  case round =>
    obtain ⟨rfl, m, i, rfl, hi, hmf, hm, hA⟩ := hrel
    cases m with
    | zero =>
      obtain rfl : i = -1 := by omega
      clear hi
      go_wp2
      go_ret
      refine ⟨?_, rfl⟩
      rw [← hA.out]
      rfl
    | succ m =>
      obtain rfl : i = (m : Int) := by omega
      clear hi
      obtain rfl : gk = m + 1 + 1 := by omega
      have hlt : m < st.length := by rw [HN.out]; omega
      have hti := List.getElem?_eq_getElem hlt
      obtain ⟨g, hAg, q0, q1, q2⟩ := H.out m _ hti
      subst hAg
      have hxs : st.take (m + 1) = st.take m ++ [st[m]] := List.take_succ_eq_append_getElem hlt
      have hA2 := hA.out
      rw [hxs, highF_snoc] at hA2
      generalize st[m] = v at q0 q1 q2 hA2
      obtain ⟨vb, vc, vx⟩ := v
      simp only at q0 q1 q2 hA2
      clear hti hlt hxs hA
      have w2 : IntKind.i64.wrap ((m : Int) - 1) = (m : Int) - 1 := IntWalk.i64_in _ (by omega)
      cases vb with
      | true =>
        rw [if_pos rfl] at hA2
        subst hA2
        go_wp2
        go_ret
        exact ⟨rfl, rfl⟩
      | false =>
        rw [if_neg (by decide)] at hA2
        have HA2 := Aside0.mk hA2; clear hA2
        go_wp2
        go_roundg (m + 1)
        case measure => omega
        case rel => exact ⟨rfl, m, _, by first | rfl | go_num, rfl, rfl, by omega, HA2⟩

end Go.Proofs.YtfnhjdehlikbaaaGreatDoor.Lx

/- The reference's Lay in the midst: its stack, what came, the token at hand. -/
namespace Go.Proofs.YtfnhjdehlikbaaaGreatDoor.Lx
open Go.RowKit Go.Proofs.YtfnhjdehlikbaaaGreatDoorW.PrintWords

theorem info159 : (Tryz.prog.info? 159).map (fun i => (i.zero, i.size, i.bytes)) = some (some (.agg #[.bool false, .int .i64 0, .string ⟨#[]⟩]), 3, 32) := by kernel_rfl

/-- The stack and what came, as rows of the call's own. -/
structure RefH (w : World) (l : List Tok) (A : Option Addr) (st : List Lev) (vs : Value) (out : List Tok) (vo : Value) (W : World) : Prop where
  stack : W.ownsRow w.heap.size 159 3 vs st.length (flatL st)
  out : W.ownsRow w.heap.size 121 6 vo out.length (flat out)
  src0 : SrcC A l w
  below : Below w.heap.size w W
/-- And the token at hand, in its block. -/
structure RefA (w : World) (l : List Tok) (A : Option Addr) (b : Nat) (t : Tok) (st : List Lev) (vs : Value) (out : List Tok) (vo : Value) (W : World) : Prop where
  head : RefH w l A st vs out vo W
  box : W.heap[b]? = some (.cells t.cells 121)
  ns : vs.ownBlock ≠ some b
  no : vo.ownBlock ≠ some b

section
variable {w : World} {l : List Tok} {A : Option Addr} {b : Nat} {t : Tok} {st st' : List Lev} {vs vs' : Value} {out out' : List Tok} {vo vo' : Value} {W W1 W' : World}
theorem RefH.src (h : RefH w l A st vs out vo W) : SrcC A l W := h.src0.below h.below
theorem RefH.step (h : RefH w l A st vs out vo W) (hb : Below W.heap.size W W') : RefH w l A st vs out vo W' :=
  ⟨own_move h.stack (fun k hk => hb.block k (own_lt h.stack k hk)), own_move h.out (fun k hk => hb.block k (own_lt h.out k hk)), h.src0, h.below.trans (hb.mono h.below.size)⟩
theorem RefA.step (h : RefA w l A b t st vs out vo W) (hb : Below W.heap.size W W') : RefA w l A b t st vs out vo W' :=
  ⟨h.head.step hb, (hb.block _ (heap_lt h.box)).trans h.box, h.ns, h.no⟩
theorem RefA.alloc (h : RefA w l A b t st vs out vo W) (o : Obj) : RefA w l A b t st vs out vo (W.alloc o) := h.step ((Below.refl _ W).alloc (Nat.le_refl _) o)
theorem RefH.alloc (h : RefH w l A st vs out vo W) (o : Obj) : RefH w l A st vs out vo (W.alloc o) := h.step ((Below.refl _ W).alloc (Nat.le_refl _) o)
theorem RefH.token (h : RefH w l A st vs out vo W) (t : Tok) : RefA w l A W.heap.size t st vs out vo (W.alloc (.cells t.cells 121)) :=
  ⟨h.alloc _, heap_new W _, fun e => by have := own_lt h.stack _ e; omega, fun e => by have := own_lt h.out _ e; omega⟩
theorem RefH.apart (h : RefH w l A st vs out vo W) (k : Nat) (h1 : vs.ownBlock = some k) (h2 : vo.ownBlock = some k) : False := by
  rcases h.stack.2 with ⟨rfl, _⟩ | ⟨g, cap, cur, rfl, _, a, _⟩
  · simp [Value.ownBlock] at h1
  · rcases h.out.2 with ⟨rfl, _⟩ | ⟨g', cap', cur', rfl, _, a', _⟩
    · simp [Value.ownBlock] at h2
    · simp [Value.ownBlock] at h1 h2
      subst h1; subst h2
      rw [a] at a'
      simp at a'
theorem RefH.put (h : RefH w l A st vs out vo W) (hG : W.grownBy W' vo.ownBlock) (hO : W'.ownsRow w.heap.size 121 6 vo' (out.length + 1) (flat out ++ t.cells.toList)) : RefH w l A st vs (out ++ [t]) vo' W' :=
  ⟨own_move h.stack (fun k hk => hG.block k (own_lt h.stack k hk) (fun e => h.apart k hk e.symm)), by rw [flat_snoc, List.length_append]; exact hO, h.src0, h.below.grown hG h.below.size (fun k hk => own_base h.out k hk)⟩
theorem RefA.put {x : Tok} (h : RefA w l A b t st vs out vo W) (hG : W.grownBy W' vo.ownBlock) (hO : W'.ownsRow w.heap.size 121 6 vo' (out.length + 1) (flat out ++ x.cells.toList)) (hA : vo'.ownBlock = vo.ownBlock ∨ vo'.ownBlock = some W.heap.size) : RefA w l A b t st vs (out ++ [x]) vo' W' :=
  ⟨h.head.put hG hO, (hG.block b (heap_lt h.box) (fun e => h.no e.symm)).trans h.box, h.ns, fun e => by
    rcases hA with h1 | h1
    · exact h.no (h1.symm.trans e)
    · rw [h1] at e
      injection e with e
      have := heap_lt h.box
      omega⟩
theorem RefH.push {v : Lev} (h : RefH w l A st vs out vo W) (hG : W.grownBy W' vs.ownBlock) (hO : W'.ownsRow w.heap.size 159 3 vs' (st.length + 1) (flatL st ++ v.cells.toList)) : RefH w l A (st ++ [v]) vs' out vo W' :=
  ⟨by rw [flatL_snoc, List.length_append]; exact hO, own_move h.out (fun k hk => hG.block k (own_lt h.out k hk) (fun e => h.apart k e.symm hk)), h.src0, h.below.grown hG h.below.size (fun k hk => own_base h.stack k hk)⟩
theorem RefA.push {v : Lev} (h : RefA w l A b t st vs out vo W) (hG : W.grownBy W' vs.ownBlock) (hO : W'.ownsRow w.heap.size 159 3 vs' (st.length + 1) (flatL st ++ v.cells.toList)) (hA : vs'.ownBlock = vs.ownBlock ∨ vs'.ownBlock = some W.heap.size) : RefA w l A b t (st ++ [v]) vs' out vo W' :=
  ⟨h.head.push hG hO, (hG.block b (heap_lt h.box) (fun e => h.ns e.symm)).trans h.box, fun e => by
    rcases hA with h1 | h1
    · exact h.ns (h1.symm.trans e)
    · rw [h1] at e
      injection e with e
      have := heap_lt h.box
      omega, h.no⟩
theorem RefH.pop {v : Lev} {S : Option Addr} {n c : Nat} (h : RefH w l A (st ++ [v]) (.slice S n c) out vo W) : RefH w l A st (.slice S st.length c) out vo W := by
  refine ⟨?_, h.out, h.src0, h.below⟩
  have hf := flatL_len st
  rcases h.stack.2 with ⟨_, h2⟩ | ⟨g, cap, cur, h1, a, b', c', d, e, f⟩
  · simp at h2
  · injection h1 with h1 h2 h3
    subst h1; subst h3
    refine ⟨by rw [hf], .inr ⟨g, c, cur, rfl, a, b', ?_, d, e, ?_⟩⟩
    · simp at c'; omega
    · rw [flatL_snoc] at f
      have : cur.toList.take (st.length * 3) = (cur.toList.take ((st ++ [v]).length * 3)).take (st.length * 3) := by
        rw [List.take_take, Nat.min_eq_left (by simp; omega)]
      rw [this, f, List.take_append_of_le_length (by omega), List.take_of_length_le (by omega)]
theorem RefA.pop {v : Lev} {S : Option Addr} {n c : Nat} (h : RefA w l A b t (st ++ [v]) (.slice S n c) out vo W) : RefA w l A b t st (.slice S st.length c) out vo W :=
  ⟨h.head.pop, h.box, fun e => h.ns (by cases S <;> exact e), h.no⟩
theorem RefA.cells (h : RefA w l A b t st vs out vo W) :
    W.cell? ⟨b, 0, none⟩ = some (.int .i64 t.kind) ∧ W.cell? ⟨b, 1, none⟩ = some (.int .i64 t.num) ∧ W.cell? ⟨b, 2, none⟩ = some (.string t.text) ∧ W.cell? ⟨b, 3, none⟩ = some (.int .i64 t.at_) ∧ W.cell? ⟨b, 4, none⟩ = some (.int .i64 t.line) ∧ W.cell? ⟨b, 5, none⟩ = some (.int .i64 t.col) :=
  ⟨cell_of h.box 0, cell_of h.box 1, cell_of h.box 2, cell_of h.box 3, cell_of h.box 4, cell_of h.box 5⟩
theorem RefH.lev (h : RefH w l A st vs out vo W) : ∃ S c, vs = .slice S st.length c ∧ LevAt S st W := levAt_of h.stack
theorem RefH.top {v : Lev} {S : Option Addr} {n c : Nat} (h : RefH w l A (st ++ [v]) (.slice S n c) out vo W) : ∃ g, S = some ⟨g, 0, none⟩ ∧ W.cell? ⟨g, st.length * 3, none⟩ = some (.bool v.block) ∧ W.cell? ⟨g, st.length * 3 + 1, none⟩ = some (.int .i64 v.col) ∧ W.cell? ⟨g, st.length * 3 + 2, none⟩ = some (.string v.text) := by
  obtain ⟨S', c', e, hl⟩ := h.lev
  injection e with e1 e2 e3
  subst e1
  exact hl st.length v (by simp)
theorem RefH.form (h : RefH w l A st vs out vo W) : (∃ S c, vs = .slice S st.length c) ∧ ∃ O c, vo = .slice O out.length c := by
  refine ⟨by obtain ⟨S, c, e, _⟩ := h.lev; exact ⟨S, c, e⟩, ?_⟩
  rcases h.out.2 with ⟨h1, h2⟩ | ⟨g, cap, cur, h1, _⟩
  · exact ⟨none, 0, by rw [h2]; exact h1⟩
  · exact ⟨_, _, h1⟩
/-- What came can be read. -/
theorem RefH.tokens (h : RefH w l A st vs out vo W) : ∃ O c, vo = .slice O out.length c ∧ SrcC O out W := by
  rcases h.out.2 with ⟨h1, h2⟩ | ⟨g, cap, cur, h1, _⟩
  · refine ⟨none, 0, by rw [h2]; exact h1, fun i t hi => ?_⟩
    rw [List.eq_nil_of_length_eq_zero h2] at hi
    simp at hi
  · refine ⟨some ⟨g, 0, none⟩, cap, h1, fun i t hi => ⟨g, rfl, ?_⟩⟩
    subst h1
    have hcs := h.out.cells rfl
    have e : ∀ k, (⟨g, 0, none⟩ : Addr).add k = ⟨g, k, none⟩ := fun k => by unfold Addr.add; split <;> simp_all
    have r : ∀ j u, j < 6 → t.cells.toList[j]? = some u → W.cell? ⟨g, i * 6 + j, none⟩ = some u := fun j u hj hu => by
      rw [← e]
      exact hcs _ _ ((flat_at out i j t hi hj).trans hu)
    exact ⟨r 0 _ (by omega) rfl, r 1 _ (by omega) rfl, r 2 _ (by omega) rfl, r 3 _ (by omega) rfl, r 4 _ (by omega) rfl, r 5 _ (by omega) rfl⟩
end
/-- A row of one element that is new. -/
theorem own_new (W : World) (B ty size : Nat) (cs : Array Value) (hB : B ≤ W.heap.size) (hs : cs.size = size) : (W.alloc (.cells cs ty)).ownsRow B ty size (.slice (some ⟨W.heap.size, 0, none⟩) 1 1) 1 cs.toList :=
  ⟨by simp [hs], .inr ⟨W.heap.size, 1, cs, rfl, hB, heap_new W _, Nat.le_refl _, by unfold maxLen; omega, by simp [hs], by simp; rw [List.take_of_length_le (by simp [hs])]⟩⟩

end Go.Proofs.YtfnhjdehlikbaaaGreatDoor.Lx

/- Plain laws for the reference's Lay: what shutting does, the lowest level is a block, what signs and keywords there are. -/
namespace Go.Proofs.YtfnhjdehlikbaaaGreatDoor.Lx
open Go.RowKit Go.Proofs.YtfnhjdehlikbaaaGreatDoorW.PrintWords

theorem topF_snoc (st : List Lev) (v : Lev) : topF (st ++ [v]) = v := by simp [topF]
theorem shutF_nil (p : Lev → Bool) (t : Tok) (out : List Tok) : shutF p t [] out = ([], out) := rfl
theorem shutF_stop {p : Lev → Bool} {t : Tok} {st : List Lev} {v : Lev} {out : List Tok} (h : (v.block && p v) = false) : shutF p t (st ++ [v]) out = (st ++ [v], out) := by
  unfold shutF
  rw [shutL, topF_snoc, if_neg (by rw [h]; decide)]
theorem shutF_go {p : Lev → Bool} {t : Tok} {st : List Lev} {v : Lev} {out : List Tok} (h : (v.block && p v) = true) : shutF p t (st ++ [v]) out = shutF p t st (out ++ [markF 7 t]) := by
  unfold shutF
  rw [shutL, topF_snoc, if_pos h, List.length_append]
  simp
theorem shutF_take (p : Lev → Bool) (t : Tok) : ∀ (n : Nat) (st : List Lev) (out : List Tok), st.length = n → ∃ k, (shutF p t st out).1 = st.take k := by
  intro n
  induction n with
  | zero => intro st out h; exact ⟨0, by rw [List.eq_nil_of_length_eq_zero h]; rfl⟩
  | succ n ih =>
    intro st out h
    rcases List.eq_nil_or_concat st with rfl | ⟨s, v, rfl⟩
    · simp at h
    · rw [List.concat_eq_append] at *
      have hs : s.length = n := by simpa using h
      cases hp : (v.block && p v) with
      | true =>
        rw [shutF_go hp]
        obtain ⟨k, hk⟩ := ih s (out ++ [markF 7 t]) hs
        exact ⟨min k n, by rw [hk, List.take_append_of_le_length (by rw [hs]; exact Nat.min_le_right _ _), ← hs, List.take_eq_take_min]⟩
      | false =>
        rw [shutF_stop hp]
        exact ⟨(s ++ [v]).length, by rw [List.take_length]⟩
theorem shutF_any (t : Tok) : ∀ (n : Nat) (st : List Lev) (out : List Tok), st.length = n → (shutF anyL t st out).1 ≠ [] → (topF (shutF anyL t st out).1).block = false := by
  intro n
  induction n with
  | zero => intro st out h; rw [List.eq_nil_of_length_eq_zero h]; intro hh; exact absurd rfl hh
  | succ n ih =>
    intro st out h
    rcases List.eq_nil_or_concat st with rfl | ⟨s, v, rfl⟩
    · simp at h
    · rw [List.concat_eq_append] at *
      have hs : s.length = n := by simpa using h
      cases hp : (v.block && anyL v) with
      | true =>
        rw [shutF_go hp]
        exact ih s _ hs
      | false =>
        rw [shutF_stop hp, topF_snoc]
        intro _
        simpa [anyL] using hp

/-- The lowest level is a block. -/
def Base (st : List Lev) : Prop := ∃ v, st.head? = some v ∧ v.block = true
theorem Base.ne {st : List Lev} (h : Base st) : st ≠ [] := by
  rintro rfl
  obtain ⟨v, h, _⟩ := h
  cases h
theorem Base.app {st : List Lev} (h : Base st) (l : List Lev) : Base (st ++ l) := by
  obtain ⟨v, h, hb⟩ := h
  refine ⟨v, ?_, hb⟩
  rw [List.head?_append, h]
  rfl
theorem Base.take {st : List Lev} (h : Base st) {k : Nat} (hk : st.take k ≠ []) : Base (st.take k) := by
  obtain ⟨v, h, hb⟩ := h
  cases st with
  | nil => cases h
  | cons a st =>
    cases k with
    | zero => exact absurd rfl hk
    | succ k => exact ⟨v, h, hb⟩
theorem Base.oneA {st : List Lev} (h : Base st) {t : Tok} {begins : Bool} {out : List Tok} (hb : badA t begins st out = false) : Base (oneA t begins st out).1 := by
  unfold badA at hb
  unfold Lx.oneA
  cases begins with
  | false => exact h
  | true =>
    rw [if_pos rfl]
    rw [Bool.true_and] at hb
    obtain ⟨k, hk⟩ := shutF_take (deeper t) t _ st out rfl
    simp only
    rw [hk] at hb ⊢
    exact h.take (fun e => by rw [e] at hb; cases hb)
theorem Base.oneB {st : List Lev} (h : Base st) {t : Tok} {out : List Tok} (hb : badB t st out = false) : Base (oneB t st out).1 := by
  unfold badB at hb
  unfold Lx.oneB
  by_cases hc : closing t = true
  · rw [hc, Bool.true_and, Bool.or_eq_false_iff] at hb
    rw [if_pos hc]
    obtain ⟨k, hk⟩ := shutF_take anyL t _ st out rfl
    have hne : (shutF anyL t st out).1 ≠ [] := fun e => by rw [e] at hb; cases hb.1
    have htop := shutF_any t _ st out rfl hne
    have hB : Base (shutF anyL t st out).1 := by rw [hk] at hne ⊢; exact h.take hne
    simp only
    generalize (shutF anyL t st out).1 = s at hB htop
    rcases List.eq_nil_or_concat s with rfl | ⟨s, v, rfl⟩
    · exact absurd rfl hB.ne
    · rw [List.concat_eq_append] at *
      rw [topF_snoc] at htop
      rw [List.dropLast_concat]
      obtain ⟨u, hu, hub⟩ := hB
      cases s with
      | nil =>
        simp at hu
        rw [hu] at htop
        rw [htop] at hub
        cases hub
      | cons a s => exact ⟨u, hu, hub⟩
  · rw [if_neg hc]
    exact h
theorem Base.oneC {st : List Lev} (h : Base st) (t nx : Tok) (more : Bool) (out : List Tok) : Base (oneC t nx more st out).1.1 := by
  unfold Lx.oneC
  split
  · exact h.app _
  · split
    · split
      · exact h.app _
      · exact h
    · exact h
theorem Base.high {st : List Lev} (h : Base st) : highF st = (lastF st).col := by
  obtain ⟨v, h, hb⟩ := h
  unfold highF lastF
  cases hf : st.reverse.find? (·.block) with
  | some u => rfl
  | none =>
    rw [List.find?_eq_none] at hf
    have := hf v (by rw [List.mem_reverse]; exact List.mem_of_mem_head? h)
    exact absurd hb this

theorem among_mem {l : List ByteArray} {s : ByteArray} : among l s = true ↔ s ∈ l := by
  unfold among
  rw [List.any_eq_true]
  constructor
  · rintro ⟨x, hx, he⟩
    rw [beq_iff_eq, ByteArray.toList_eq, ByteArray.toList_eq] at he
    rwa [show s = x from ByteArray.ext (Array.toList_inj.1 he)]
  · exact fun h => ⟨s, h, by simp⟩
theorem special_path : ∀ x ∈ closers ++ openers, ¬ (pathF x = true ∧ isKw x = false) := by decide +kernel
theorem special_digit : ∀ x ∈ closers ++ openers, run isDigit x 0 ≠ x.size := by decide +kernel
theorem special_sign {t : Tok} (h : WfT t) (hx : t.text ∈ closers ++ openers) : t.sign = true := by
  rcases h with ⟨_, _, h3, h4⟩ | ⟨_, _, h3, _⟩ | ⟨h1, _⟩ | ⟨h1, _⟩
  · exact absurd ⟨h3, h4⟩ (special_path _ hx)
  · exact absurd h3 (special_digit _ hx)
  · unfold Tok.sign; rw [h1]; rfl
  · unfold Tok.sign; rw [h1]; rfl
theorem closing_wf {t : Tok} (h : WfT t) : closing t = among closers t.text := by
  unfold closing
  cases ha : among closers t.text with
  | false => rw [Bool.and_false]
  | true => rw [special_sign h (List.mem_append_left _ (among_mem.1 ha)), Bool.and_true]
theorem opening_wf {t : Tok} (h : WfT t) : opening t = among openers t.text := by
  unfold opening
  cases ha : among openers t.text with
  | false => rw [Bool.and_false]
  | true => rw [special_sign h (List.mem_append_right _ (among_mem.1 ha)), Bool.and_true]
theorem withs_closer {s : ByteArray} (h : sq s [119, 105, 116, 104] = true) : s = ⟨#[119, 105, 116, 104]⟩ := by
  unfold sq at h
  rw [beq_iff_eq, ByteArray.toList_eq] at h
  exact ByteArray.ext (Array.toList_inj.1 h)
theorem withs_wf {t : Tok} (h : WfT t) : withs t = sq t.text [119, 105, 116, 104] := by
  unfold withs
  cases ha : sq t.text [119, 105, 116, 104] with
  | false => rw [Bool.and_false]
  | true => rw [special_sign h (List.mem_append_left _ (by rw [withs_closer ha]; simp [closers])), Bool.and_true]
theorem opener_not_with {s : ByteArray} (h : among openers s = true) : sq s [119, 105, 116, 104] = false := by
  cases ha : sq s [119, 105, 116, 104] with
  | false => rfl
  | true =>
    rw [withs_closer ha] at h
    revert h
    decide +kernel

end Go.Proofs.YtfnhjdehlikbaaaGreatDoor.Lx

