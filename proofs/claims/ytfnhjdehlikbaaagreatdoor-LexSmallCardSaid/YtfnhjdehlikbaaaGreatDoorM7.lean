import Derived.Test.YtfnhjdehlikbaaaGreatDoorM5
import Derived.Test.YtfnhjdehlikbaaaGreatDoorM4
set_option linter.unusedVariables false
set_option linter.unusedSimpArgs false
namespace Go.Proofs.YtfnhjdehlikbaaaGreatDoor.Lx
open Go.RowKit Go.Proofs.YtfnhjdehlikbaaaGreatDoorW.PrintWords
def SmallT (t : Tok) : Prop := 0 ≤ t.at_ ∧ t.at_ ≤ 65536 ∧ 0 ≤ t.line ∧ t.line ≤ 65536 ∧ 0 ≤ t.col ∧ t.col ≤ 65536 ∧ t.text.size ≤ 65536
set_option maxRecDepth 100000 in
set_option maxHeartbeats 4000000 in
theorem virtual_any (k : Int) (l : List Tok) (A : Option Addr) (c i : Nat) (w : World) (hl : l.length ≤ 5000) (hi : i ≤ l.length) (hs : ∀ t ∈ l, SmallT t) (hT : SrcC A l w) :
    Calls Tryz.prog 109 #[.int .i64 k, .slice A l.length c, .int .i64 (i : Int)] w fun e w' => e = .returned (.agg (markF k (l[i]?.getD (endT l))).cells) ∧ Below w.heap.size w w' := by
  by_cases hlt : i < l.length
  · have hti := List.getElem?_eq_getElem hlt
    obtain ⟨g, hAg, q0, q1, q2, q3, q4, q5⟩ := hT i _ hti
    rw [hti, Option.getD_some]
    generalize l[i] = t at q0 q1 q2 q3 q4 q5
    subst hAg
    obtain ⟨tk, tn, tx, ta, tl, tc⟩ := t
    simp only [markF, Tok.cells] at q0 q1 q2 q3 q4 q5 ⊢
    have hg : g < w.heap.size := World.block_lt_of_cell? _ _ q0
    have hlen : (i : Int) < (l.length : Int) := by omega
    clear hT hti hlt hs
    generalize l.length = n at *
    go_enter Tryz.func109, Tryz.ntmps109
    go_wp2
    refine bodyPost_ret (results_cell_row rfl _ _ w.heap.size 121 _ (0, 0) _ rfl (heap_alloc (heap_new w _) _) Tryz.underlying121 rfl (size121 _ _ _ _ _ _)) rfl ⟨rfl, ?_⟩
    exact ((Below.refl _ w).alloc (Nat.le_refl _) _).alloc (by simp) _
  · obtain rfl : i = l.length := by omega
    rw [List.getElem?_eq_none (by omega), Option.getD_none]
    rcases List.eq_nil_or_concat l with rfl | ⟨l, t, rfl⟩
    · simp only [List.length_nil, endT, List.getLast?_nil, markF, Tok.cells]
      go_enter Tryz.func109, Tryz.ntmps109
      go_wp2
      refine bodyPost_ret (results_cell_row rfl _ _ w.heap.size 121 _ (0, 0) _ rfl (heap_alloc (heap_new w _) _) Tryz.underlying121 rfl (size121 _ _ _ _ _ _)) rfl ⟨rfl, ?_⟩
      exact ((Below.refl _ w).alloc (Nat.le_refl _) _).alloc (by simp) _
    · rw [List.concat_eq_append] at *
      have hst := hs t (by simp)
      have hti : (l ++ [t])[l.length]? = some t := by simp
      obtain ⟨g, hAg, q0, q1, q2, q3, q4, q5⟩ := hT l.length _ hti
      have he : endT (l ++ [t]) = { t with at_ := t.at_ + t.text.size, col := t.col + t.text.size } := by unfold endT; simp
      rw [he]
      subst hAg
      obtain ⟨tk, tn, tx, ta, tl, tc⟩ := t
      obtain ⟨s1, s2, s3, s4, s5, s6, s7⟩ := hst
      simp only [markF, Tok.cells] at q0 q1 q2 q3 q4 q5 s1 s2 s3 s4 s5 s6 s7 ⊢
      have hg : g < w.heap.size := World.block_lt_of_cell? _ _ q0
      have hlen : (l ++ [(⟨tk, tn, tx, ta, tl, tc⟩ : Tok)]).length = l.length + 1 := by simp
      rw [hlen] at hl ⊢
      clear hT hti hlt hs he hi hlen
      generalize l.length = n at *
      go_enter Tryz.func109, Tryz.ntmps109
      go_wp2
      refine bodyPost_ret (results_cell_row rfl _ _ w.heap.size 121 _ (0, 0) _ rfl (heap_alloc (heap_alloc (heap_new w _) _) _) Tryz.underlying121 rfl (size121 _ _ _ _ _ _)) rfl ⟨rfl, ?_⟩
      exact (((Below.refl _ w).alloc (Nat.le_refl _) _).alloc (by simp) _).alloc (by simp; omega) _
theorem has_in (l : List ByteArray) (s : ByteArray) (g c : Nat) (W : World) {cs : Array Value} {t : TypeId} {f : Nat × Nat} (hl : l.length ≤ 1000000) (h : W.heap[g]? = some (.cells cs t f)) (hc : cs.toList = l.map Value.string) :
    Calls Tryz.prog 83 #[.slice (some ⟨g, 0, none⟩) l.length c, .string s] W fun e w' => e = .returned (.bool (among l s)) ∧ Below W.heap.size W w' :=
  (refHas_any l s g c W hl (fun k x hk => by rw [cell_of h, ← Array.getElem?_toList, hc]; simp [hk])).mono fun e w' ⟨he, hd⟩ => ⟨he, by rw [hd]; exact Below.refl _ _⟩
set_option maxRecDepth 100000 in
set_option maxHeartbeats 4000000 in
theorem refClosing_any (t : Tok) (w : World) : Calls Tryz.prog 110 #[.agg t.cells] w fun e w' => e = .returned (.bool (among closers t.text)) ∧ Below w.heap.size w w' := by
  obtain ⟨tk, tn, tx, ta, tl, tc⟩ := t
  have HH : Aside0 (∀ W, W.heap[w.heap.size + 1]? = some (.cells #[.string ⟨#[41]⟩, .string ⟨#[125]⟩, .string ⟨#[105, 110]⟩, .string ⟨#[119, 105, 116, 104]⟩] 9) → Calls Tryz.prog 83 #[.slice (some ⟨w.heap.size + 1, 0, none⟩) 4 4, .string tx] W fun e w' => e = .returned (.bool (among closers tx)) ∧ Below W.heap.size W w') := ⟨fun W h => has_in closers tx (w.heap.size + 1) 4 W (by decide) h rfl⟩
  simp only [Tok.cells]
  go_enter Tryz.func110, Tryz.ntmps110
  go_wp2_with (go_at_call 83; refine (HH.out _ (heap_new' _ _ _ (by simp))).mono ?_; rintro e w1 ⟨rfl, hb⟩; have HB := Aside0.mk hb; clear hb)
  go_ret
  exact ⟨rfl, (((Below.refl _ w).alloc (Nat.le_refl _) _).alloc (by simp) _).trans (HB.out.mono (by simp; omega))⟩
set_option maxRecDepth 100000 in
set_option maxHeartbeats 4000000 in
theorem refOpening_any (t : Tok) (w : World) : Calls Tryz.prog 112 #[.agg t.cells] w fun e w' => e = .returned (.bool (among openers t.text)) ∧ Below w.heap.size w w' := by
  obtain ⟨tk, tn, tx, ta, tl, tc⟩ := t
  have HH : Aside0 (∀ W, W.heap[w.heap.size + 1]? = some (.cells #[.string ⟨#[40]⟩, .string ⟨#[123]⟩, .string ⟨#[108, 101, 116]⟩, .string ⟨#[109, 97, 116, 99, 104]⟩, .string ⟨#[104, 97, 110, 100, 108, 101]⟩, .string ⟨#[97, 98, 105, 108, 105, 116, 121]⟩] 9) → Calls Tryz.prog 83 #[.slice (some ⟨w.heap.size + 1, 0, none⟩) 6 6, .string tx] W fun e w' => e = .returned (.bool (among openers tx)) ∧ Below W.heap.size W w') := ⟨fun W h => has_in openers tx (w.heap.size + 1) 6 W (by decide) h rfl⟩
  simp only [Tok.cells]
  go_enter Tryz.func112, Tryz.ntmps112
  go_wp2_with (go_at_call 83; refine (HH.out _ (heap_new' _ _ _ (by simp))).mono ?_; rintro e w1 ⟨rfl, hb⟩; have HB := Aside0.mk hb; clear hb)
  go_ret
  exact ⟨rfl, (((Below.refl _ w).alloc (Nat.le_refl _) _).alloc (by simp) _).trans (HB.out.mono (by simp; omega))⟩
theorem closesF_at (b a : ByteArray) : closesF b a = ((a.toList == [40] && b.toList == [41]) || ((a.toList == [123] && b.toList == [125]) || ((a.toList == [108, 101, 116] && b.toList == [105, 110]) || ((a.toList == [109, 97, 116, 99, 104] || (a.toList == [104, 97, 110, 100, 108, 101] || a.toList == [97, 98, 105, 108, 105, 116, 121])) && b.toList == [119, 105, 116, 104])))) := by
  unfold closesF sq
  by_cases h1 : b.toList = [41]
  · simp [h1]
  · by_cases h2 : b.toList = [125]
    · simp [h2]
    · by_cases h3 : b.toList = [105, 110]
      · simp [h3]
      · by_cases h4 : b.toList = [119, 105, 116, 104]
        · simp [h4]
        · simp [h1, h2, h3, h4]
set_option maxRecDepth 100000 in
set_option maxHeartbeats 4000000 in
theorem pair_any (a b : ByteArray) (w : World) : Calls Tryz.prog 111 #[.string a, .string b] w fun e w' => e = .returned (.bool (closesF b a)) ∧ w = w' := by
  rw [closesF_at]
  by_cases h0 : a.toList = [40]
  · have p0 : (a.toList == [40]) = true := by rw [h0]; rfl
    have p1 : (a.toList == [123]) = false := by rw [h0]; rfl
    have p2 : (a.toList == [108, 101, 116]) = false := by rw [h0]; rfl
    have p3 : (a.toList == [109, 97, 116, 99, 104]) = false := by rw [h0]; rfl
    have p4 : (a.toList == [104, 97, 110, 100, 108, 101]) = false := by rw [h0]; rfl
    have p5 : (a.toList == [97, 98, 105, 108, 105, 116, 121]) = false := by rw [h0]; rfl
    clear h0
    cases q : (b.toList == [41])
    · go_enter Tryz.func111, Tryz.ntmps111
      go_wp2
      go_ret
      exact ⟨by simp [p0, p1, p2, p3, p4, p5, q], rfl⟩
    · go_enter Tryz.func111, Tryz.ntmps111
      go_wp2
      go_ret
      exact ⟨by simp [p0, p1, p2, p3, p4, p5, q], rfl⟩
  · by_cases h1 : a.toList = [123]
    · have p1 : (a.toList == [123]) = true := by rw [h1]; rfl
      have p0 : (a.toList == [40]) = false := beq_eq_false_iff_ne.mpr h0
      have p2 : (a.toList == [108, 101, 116]) = false := by rw [h1]; rfl
      have p3 : (a.toList == [109, 97, 116, 99, 104]) = false := by rw [h1]; rfl
      have p4 : (a.toList == [104, 97, 110, 100, 108, 101]) = false := by rw [h1]; rfl
      have p5 : (a.toList == [97, 98, 105, 108, 105, 116, 121]) = false := by rw [h1]; rfl
      clear h0 h1
      cases q : (b.toList == [125])
      · go_enter Tryz.func111, Tryz.ntmps111
        go_wp2
        go_ret
        exact ⟨by simp [p0, p1, p2, p3, p4, p5, q], rfl⟩
      · go_enter Tryz.func111, Tryz.ntmps111
        go_wp2
        go_ret
        exact ⟨by simp [p0, p1, p2, p3, p4, p5, q], rfl⟩
    · by_cases h2 : a.toList = [108, 101, 116]
      · have p2 : (a.toList == [108, 101, 116]) = true := by rw [h2]; rfl
        have p0 : (a.toList == [40]) = false := beq_eq_false_iff_ne.mpr h0
        have p1 : (a.toList == [123]) = false := beq_eq_false_iff_ne.mpr h1
        have p3 : (a.toList == [109, 97, 116, 99, 104]) = false := by rw [h2]; rfl
        have p4 : (a.toList == [104, 97, 110, 100, 108, 101]) = false := by rw [h2]; rfl
        have p5 : (a.toList == [97, 98, 105, 108, 105, 116, 121]) = false := by rw [h2]; rfl
        clear h0 h1 h2
        cases q : (b.toList == [105, 110])
        · go_enter Tryz.func111, Tryz.ntmps111
          go_wp2
          go_ret
          exact ⟨by simp [p0, p1, p2, p3, p4, p5, q], rfl⟩
        · go_enter Tryz.func111, Tryz.ntmps111
          go_wp2
          go_ret
          exact ⟨by simp [p0, p1, p2, p3, p4, p5, q], rfl⟩
      · by_cases h3 : a.toList = [109, 97, 116, 99, 104]
        · have p3 : (a.toList == [109, 97, 116, 99, 104]) = true := by rw [h3]; rfl
          have p0 : (a.toList == [40]) = false := beq_eq_false_iff_ne.mpr h0
          have p1 : (a.toList == [123]) = false := beq_eq_false_iff_ne.mpr h1
          have p2 : (a.toList == [108, 101, 116]) = false := beq_eq_false_iff_ne.mpr h2
          have p4 : (a.toList == [104, 97, 110, 100, 108, 101]) = false := by rw [h3]; rfl
          have p5 : (a.toList == [97, 98, 105, 108, 105, 116, 121]) = false := by rw [h3]; rfl
          clear h0 h1 h2 h3
          cases q : (b.toList == [119, 105, 116, 104])
          · go_enter Tryz.func111, Tryz.ntmps111
            go_wp2
            go_ret
            exact ⟨by simp [p0, p1, p2, p3, p4, p5, q], rfl⟩
          · go_enter Tryz.func111, Tryz.ntmps111
            go_wp2
            go_ret
            exact ⟨by simp [p0, p1, p2, p3, p4, p5, q], rfl⟩
        · by_cases h4 : a.toList = [104, 97, 110, 100, 108, 101]
          · have p4 : (a.toList == [104, 97, 110, 100, 108, 101]) = true := by rw [h4]; rfl
            have p0 : (a.toList == [40]) = false := beq_eq_false_iff_ne.mpr h0
            have p1 : (a.toList == [123]) = false := beq_eq_false_iff_ne.mpr h1
            have p2 : (a.toList == [108, 101, 116]) = false := beq_eq_false_iff_ne.mpr h2
            have p3 : (a.toList == [109, 97, 116, 99, 104]) = false := beq_eq_false_iff_ne.mpr h3
            have p5 : (a.toList == [97, 98, 105, 108, 105, 116, 121]) = false := by rw [h4]; rfl
            clear h0 h1 h2 h3 h4
            cases q : (b.toList == [119, 105, 116, 104])
            · go_enter Tryz.func111, Tryz.ntmps111
              go_wp2
              go_ret
              exact ⟨by simp [p0, p1, p2, p3, p4, p5, q], rfl⟩
            · go_enter Tryz.func111, Tryz.ntmps111
              go_wp2
              go_ret
              exact ⟨by simp [p0, p1, p2, p3, p4, p5, q], rfl⟩
          · by_cases h5 : a.toList = [97, 98, 105, 108, 105, 116, 121]
            · have p5 : (a.toList == [97, 98, 105, 108, 105, 116, 121]) = true := by rw [h5]; rfl
              have p0 : (a.toList == [40]) = false := beq_eq_false_iff_ne.mpr h0
              have p1 : (a.toList == [123]) = false := beq_eq_false_iff_ne.mpr h1
              have p2 : (a.toList == [108, 101, 116]) = false := beq_eq_false_iff_ne.mpr h2
              have p3 : (a.toList == [109, 97, 116, 99, 104]) = false := beq_eq_false_iff_ne.mpr h3
              have p4 : (a.toList == [104, 97, 110, 100, 108, 101]) = false := beq_eq_false_iff_ne.mpr h4
              clear h0 h1 h2 h3 h4 h5
              cases q : (b.toList == [119, 105, 116, 104])
              · go_enter Tryz.func111, Tryz.ntmps111
                go_wp2
                go_ret
                exact ⟨by simp [p0, p1, p2, p3, p4, p5, q], rfl⟩
              · go_enter Tryz.func111, Tryz.ntmps111
                go_wp2
                go_ret
                exact ⟨by simp [p0, p1, p2, p3, p4, p5, q], rfl⟩
            · have p0 : (a.toList == [40]) = false := beq_eq_false_iff_ne.mpr h0
              have p1 : (a.toList == [123]) = false := beq_eq_false_iff_ne.mpr h1
              have p2 : (a.toList == [108, 101, 116]) = false := beq_eq_false_iff_ne.mpr h2
              have p3 : (a.toList == [109, 97, 116, 99, 104]) = false := beq_eq_false_iff_ne.mpr h3
              have p4 : (a.toList == [104, 97, 110, 100, 108, 101]) = false := beq_eq_false_iff_ne.mpr h4
              have p5 : (a.toList == [97, 98, 105, 108, 105, 116, 121]) = false := beq_eq_false_iff_ne.mpr h5
              clear h0 h1 h2 h3 h4 h5
              go_enter Tryz.func111, Tryz.ntmps111
              go_wp2
              go_ret
              exact ⟨by simp [p0, p1, p2, p3, p4, p5], rfl⟩
end Go.Proofs.YtfnhjdehlikbaaaGreatDoor.Lx
namespace Go.Proofs.YtfnhjdehlikbaaaGreatDoor.Lx
open Go.RowKit Go.Proofs.YtfnhjdehlikbaaaGreatDoorW.PrintWords
def highF (st : List Lev) : Int := match st.reverse.find? (·.block) with | some v => v.col | none => -1
theorem highF_snoc (st : List Lev) (v : Lev) : highF (st ++ [v]) = if v.block = true then v.col else highF st := by
  unfold highF
  rw [List.reverse_append, List.reverse_singleton, List.singleton_append, List.find?_cons]
  cases v.block <;> rfl
theorem flatL_at : ∀ (st : List Lev) (i j : Nat) (v : Lev), st[i]? = some v → j < 3 → (flatL st)[i * 3 + j]? = v.cells.toList[j]? := by
  intro st
  induction st with
  | nil => intro i j v h; simp at h
  | cons a st ih =>
    intro i j v h hj
    have e : flatL (a :: st) = a.cells.toList ++ flatL st := by simp [flatL]
    rw [e]
    have ha : a.cells.toList.length = 3 := rfl
    cases i with
    | zero =>
      simp at h
      subst h
      rw [Nat.zero_mul, Nat.zero_add, List.getElem?_append_left (by omega)]
    | succ i =>
      simp at h
      rw [List.getElem?_append_right (by omega), ← ih i j v h hj]
      congr 1
      omega
theorem levAt_of {W : World} {B ty : Nat} {vs : Value} {st : List Lev} (h : W.ownsRow B ty 3 vs st.length (flatL st)) : ∃ A c, vs = .slice A st.length c ∧ LevAt A st W := by
  rcases h.2 with ⟨h1, h2⟩ | ⟨g, cap, cur, h1, _⟩
  · refine ⟨none, 0, by rw [h2]; exact h1, fun i v hv => ?_⟩
    rw [List.eq_nil_of_length_eq_zero h2] at hv
    simp at hv
  · subst h1
    refine ⟨_, _, rfl, fun i v hv => ⟨g, rfl, ?_⟩⟩
    have hcs := h.cells rfl
    have e : ∀ k, (⟨g, 0, none⟩ : Addr).add k = ⟨g, k, none⟩ := fun k => by unfold Addr.add; split <;> simp_all
    have r : ∀ j u, j < 3 → v.cells.toList[j]? = some u → W.cell? ⟨g, i * 3 + j, none⟩ = some u := fun j u hj hu => by
      rw [← e]
      exact hcs _ _ ((flatL_at st i j v hv hj).trans hu)
    exact ⟨r 0 _ (by omega) rfl, r 1 _ (by omega) rfl, r 2 _ (by omega) rfl⟩
set_option maxRecDepth 100000 in
set_option maxHeartbeats 4000000 in
theorem highest_any (st : List Lev) (A : Option Addr) (c : Nat) (w : World) (hl : st.length ≤ 1000000) (h : LevAt A st w) :
    Calls Tryz.prog 113 #[.slice A st.length c] w fun e w' => e = .returned (.int .i64 (highF st)) ∧ w = w' := by
  have H := Aside0.mk h; clear h
  obtain ⟨n, hn⟩ : ∃ n, st.length = n := ⟨_, rfl⟩
  rw [hn] at hl ⊢
  have HN := Aside0.mk hn; clear hn
  obtain ⟨r, hr⟩ : ∃ r, highF st = r := ⟨_, rfl⟩
  rw [hr]
  have HR := Aside0.mk hr; clear hr
  have w1 : IntKind.i64.wrap ((n : Int) - 1) = (n : Int) - 1 := IntWalk.i64_in _ (by omega)
  go_enter Tryz.func113, Tryz.ntmps113
  go_wp2
  go_loopg [3] (n + 1) (fun f t3 wr => wr = w ∧ ∃ (m : Nat) (i : Int), t3 = .int .i64 i ∧ i = (m : Int) - 1 ∧ m + 1 = f ∧ m ≤ n ∧ Aside0 (highF (st.take m) = r))
  case atStart => exact ⟨rfl, n, _, rfl, rfl, rfl, Nat.le_refl _, ⟨by rw [List.take_of_length_le (by rw [HN.out]; exact Nat.le_refl _)]; exact HR.out⟩⟩
  case round =>
    obtain ⟨rfl, m, i, rfl, hi, hmf, hm, hA⟩ := hrel
    cases m with
    | zero =>
      obtain rfl : i = -1 := by omega
      clear hi
      go_wp2
      go_ret
      refine ⟨?_, rfl⟩
      rw [← hA.out]
      rfl
    | succ m =>
      obtain rfl : i = (m : Int) := by omega
      clear hi
      obtain rfl : gk = m + 1 + 1 := by omega
      have hlt : m < st.length := by rw [HN.out]; omega
      have hti := List.getElem?_eq_getElem hlt
      obtain ⟨g, hAg, q0, q1, q2⟩ := H.out m _ hti
      subst hAg
      have hxs : st.take (m + 1) = st.take m ++ [st[m]] := List.take_succ_eq_append_getElem hlt
      have hA2 := hA.out
      rw [hxs, highF_snoc] at hA2
      generalize st[m] = v at q0 q1 q2 hA2
      obtain ⟨vb, vc, vx⟩ := v
      simp only at q0 q1 q2 hA2
      clear hti hlt hxs hA
      have w2 : IntKind.i64.wrap ((m : Int) - 1) = (m : Int) - 1 := IntWalk.i64_in _ (by omega)
      cases vb with
      | true =>
        rw [if_pos rfl] at hA2
        subst hA2
        go_wp2
        go_ret
        exact ⟨rfl, rfl⟩
      | false =>
        rw [if_neg (by decide)] at hA2
        have HA2 := Aside0.mk hA2; clear hA2
        go_wp2
        go_roundg (m + 1)
        case measure => omega
        case rel => exact ⟨rfl, m, _, by first | rfl | go_num, rfl, rfl, by omega, HA2⟩
end Go.Proofs.YtfnhjdehlikbaaaGreatDoor.Lx
namespace Go.Proofs.YtfnhjdehlikbaaaGreatDoor.Lx
open Go.RowKit Go.Proofs.YtfnhjdehlikbaaaGreatDoorW.PrintWords
theorem info159 : (Tryz.prog.info? 159).map (fun i => (i.zero, i.size, i.bytes)) = some (some (.agg #[.bool false, .int .i64 0, .string ⟨#[]⟩]), 3, 32) := by kernel_rfl
structure RefH (w : World) (l : List Tok) (A : Option Addr) (st : List Lev) (vs : Value) (out : List Tok) (vo : Value) (W : World) : Prop where
  stack : W.ownsRow w.heap.size 159 3 vs st.length (flatL st)
  out : W.ownsRow w.heap.size 121 6 vo out.length (flat out)
  src0 : SrcC A l w
  below : Below w.heap.size w W
structure RefA (w : World) (l : List Tok) (A : Option Addr) (b : Nat) (t : Tok) (st : List Lev) (vs : Value) (out : List Tok) (vo : Value) (W : World) : Prop where
  head : RefH w l A st vs out vo W
  box : W.heap[b]? = some (.cells t.cells 121)
  ns : vs.ownBlock ≠ some b
  no : vo.ownBlock ≠ some b
section
variable {w : World} {l : List Tok} {A : Option Addr} {b : Nat} {t : Tok} {st st' : List Lev} {vs vs' : Value} {out out' : List Tok} {vo vo' : Value} {W W1 W' : World}
theorem RefH.src (h : RefH w l A st vs out vo W) : SrcC A l W := h.src0.below h.below
theorem RefH.step (h : RefH w l A st vs out vo W) (hb : Below W.heap.size W W') : RefH w l A st vs out vo W' :=
  ⟨own_move h.stack (fun k hk => hb.block k (own_lt h.stack k hk)), own_move h.out (fun k hk => hb.block k (own_lt h.out k hk)), h.src0, h.below.trans (hb.mono h.below.size)⟩
theorem RefA.step (h : RefA w l A b t st vs out vo W) (hb : Below W.heap.size W W') : RefA w l A b t st vs out vo W' :=
  ⟨h.head.step hb, (hb.block _ (heap_lt h.box)).trans h.box, h.ns, h.no⟩
theorem RefA.alloc (h : RefA w l A b t st vs out vo W) (o : Obj) : RefA w l A b t st vs out vo (W.alloc o) := h.step ((Below.refl _ W).alloc (Nat.le_refl _) o)
theorem RefH.alloc (h : RefH w l A st vs out vo W) (o : Obj) : RefH w l A st vs out vo (W.alloc o) := h.step ((Below.refl _ W).alloc (Nat.le_refl _) o)
theorem RefH.token (h : RefH w l A st vs out vo W) (t : Tok) : RefA w l A W.heap.size t st vs out vo (W.alloc (.cells t.cells 121)) :=
  ⟨h.alloc _, heap_new W _, fun e => by have := own_lt h.stack _ e; omega, fun e => by have := own_lt h.out _ e; omega⟩
theorem RefH.apart (h : RefH w l A st vs out vo W) (k : Nat) (h1 : vs.ownBlock = some k) (h2 : vo.ownBlock = some k) : False := by
  rcases h.stack.2 with ⟨rfl, _⟩ | ⟨g, cap, cur, rfl, _, a, _⟩
  · simp [Value.ownBlock] at h1
  · rcases h.out.2 with ⟨rfl, _⟩ | ⟨g', cap', cur', rfl, _, a', _⟩
    · simp [Value.ownBlock] at h2
    · simp [Value.ownBlock] at h1 h2
      subst h1; subst h2
      rw [a] at a'
      simp at a'
theorem RefH.put (h : RefH w l A st vs out vo W) (hG : W.grownBy W' vo.ownBlock) (hO : W'.ownsRow w.heap.size 121 6 vo' (out.length + 1) (flat out ++ t.cells.toList)) : RefH w l A st vs (out ++ [t]) vo' W' :=
  ⟨own_move h.stack (fun k hk => hG.block k (own_lt h.stack k hk) (fun e => h.apart k hk e.symm)), by rw [flat_snoc, List.length_append]; exact hO, h.src0, h.below.grown hG h.below.size (fun k hk => own_base h.out k hk)⟩
theorem RefA.put {x : Tok} (h : RefA w l A b t st vs out vo W) (hG : W.grownBy W' vo.ownBlock) (hO : W'.ownsRow w.heap.size 121 6 vo' (out.length + 1) (flat out ++ x.cells.toList)) (hA : vo'.ownBlock = vo.ownBlock ∨ vo'.ownBlock = some W.heap.size) : RefA w l A b t st vs (out ++ [x]) vo' W' :=
  ⟨h.head.put hG hO, (hG.block b (heap_lt h.box) (fun e => h.no e.symm)).trans h.box, h.ns, fun e => by
    rcases hA with h1 | h1
    · exact h.no (h1.symm.trans e)
    · rw [h1] at e
      injection e with e
      have := heap_lt h.box
      omega⟩
theorem RefH.push {v : Lev} (h : RefH w l A st vs out vo W) (hG : W.grownBy W' vs.ownBlock) (hO : W'.ownsRow w.heap.size 159 3 vs' (st.length + 1) (flatL st ++ v.cells.toList)) : RefH w l A (st ++ [v]) vs' out vo W' :=
  ⟨by rw [flatL_snoc, List.length_append]; exact hO, own_move h.out (fun k hk => hG.block k (own_lt h.out k hk) (fun e => h.apart k e.symm hk)), h.src0, h.below.grown hG h.below.size (fun k hk => own_base h.stack k hk)⟩
theorem RefA.push {v : Lev} (h : RefA w l A b t st vs out vo W) (hG : W.grownBy W' vs.ownBlock) (hO : W'.ownsRow w.heap.size 159 3 vs' (st.length + 1) (flatL st ++ v.cells.toList)) (hA : vs'.ownBlock = vs.ownBlock ∨ vs'.ownBlock = some W.heap.size) : RefA w l A b t (st ++ [v]) vs' out vo W' :=
  ⟨h.head.push hG hO, (hG.block b (heap_lt h.box) (fun e => h.ns e.symm)).trans h.box, fun e => by
    rcases hA with h1 | h1
    · exact h.ns (h1.symm.trans e)
    · rw [h1] at e
      injection e with e
      have := heap_lt h.box
      omega, h.no⟩
theorem RefH.pop {v : Lev} {S : Option Addr} {n c : Nat} (h : RefH w l A (st ++ [v]) (.slice S n c) out vo W) : RefH w l A st (.slice S st.length c) out vo W := by
  refine ⟨?_, h.out, h.src0, h.below⟩
  have hf := flatL_len st
  rcases h.stack.2 with ⟨_, h2⟩ | ⟨g, cap, cur, h1, a, b', c', d, e, f⟩
  · simp at h2
  · injection h1 with h1 h2 h3
    subst h1; subst h3
    refine ⟨by rw [hf], .inr ⟨g, c, cur, rfl, a, b', ?_, d, e, ?_⟩⟩
    · simp at c'; omega
    · rw [flatL_snoc] at f
      have : cur.toList.take (st.length * 3) = (cur.toList.take ((st ++ [v]).length * 3)).take (st.length * 3) := by
        rw [List.take_take, Nat.min_eq_left (by simp; omega)]
      rw [this, f, List.take_append_of_le_length (by omega), List.take_of_length_le (by omega)]
theorem RefA.pop {v : Lev} {S : Option Addr} {n c : Nat} (h : RefA w l A b t (st ++ [v]) (.slice S n c) out vo W) : RefA w l A b t st (.slice S st.length c) out vo W :=
  ⟨h.head.pop, h.box, fun e => h.ns (by cases S <;> exact e), h.no⟩
theorem RefA.cells (h : RefA w l A b t st vs out vo W) :
    W.cell? ⟨b, 0, none⟩ = some (.int .i64 t.kind) ∧ W.cell? ⟨b, 1, none⟩ = some (.int .i64 t.num) ∧ W.cell? ⟨b, 2, none⟩ = some (.string t.text) ∧ W.cell? ⟨b, 3, none⟩ = some (.int .i64 t.at_) ∧ W.cell? ⟨b, 4, none⟩ = some (.int .i64 t.line) ∧ W.cell? ⟨b, 5, none⟩ = some (.int .i64 t.col) :=
  ⟨cell_of h.box 0, cell_of h.box 1, cell_of h.box 2, cell_of h.box 3, cell_of h.box 4, cell_of h.box 5⟩
theorem RefH.lev (h : RefH w l A st vs out vo W) : ∃ S c, vs = .slice S st.length c ∧ LevAt S st W := levAt_of h.stack
theorem RefH.top {v : Lev} {S : Option Addr} {n c : Nat} (h : RefH w l A (st ++ [v]) (.slice S n c) out vo W) : ∃ g, S = some ⟨g, 0, none⟩ ∧ W.cell? ⟨g, st.length * 3, none⟩ = some (.bool v.block) ∧ W.cell? ⟨g, st.length * 3 + 1, none⟩ = some (.int .i64 v.col) ∧ W.cell? ⟨g, st.length * 3 + 2, none⟩ = some (.string v.text) := by
  obtain ⟨S', c', e, hl⟩ := h.lev
  injection e with e1 e2 e3
  subst e1
  exact hl st.length v (by simp)
theorem RefH.form (h : RefH w l A st vs out vo W) : (∃ S c, vs = .slice S st.length c) ∧ ∃ O c, vo = .slice O out.length c := by
  refine ⟨by obtain ⟨S, c, e, _⟩ := h.lev; exact ⟨S, c, e⟩, ?_⟩
  rcases h.out.2 with ⟨h1, h2⟩ | ⟨g, cap, cur, h1, _⟩
  · exact ⟨none, 0, by rw [h2]; exact h1⟩
  · exact ⟨_, _, h1⟩
theorem RefH.tokens (h : RefH w l A st vs out vo W) : ∃ O c, vo = .slice O out.length c ∧ SrcC O out W := by
  rcases h.out.2 with ⟨h1, h2⟩ | ⟨g, cap, cur, h1, _⟩
  · refine ⟨none, 0, by rw [h2]; exact h1, fun i t hi => ?_⟩
    rw [List.eq_nil_of_length_eq_zero h2] at hi
    simp at hi
  · refine ⟨some ⟨g, 0, none⟩, cap, h1, fun i t hi => ⟨g, rfl, ?_⟩⟩
    subst h1
    have hcs := h.out.cells rfl
    have e : ∀ k, (⟨g, 0, none⟩ : Addr).add k = ⟨g, k, none⟩ := fun k => by unfold Addr.add; split <;> simp_all
    have r : ∀ j u, j < 6 → t.cells.toList[j]? = some u → W.cell? ⟨g, i * 6 + j, none⟩ = some u := fun j u hj hu => by
      rw [← e]
      exact hcs _ _ ((flat_at out i j t hi hj).trans hu)
    exact ⟨r 0 _ (by omega) rfl, r 1 _ (by omega) rfl, r 2 _ (by omega) rfl, r 3 _ (by omega) rfl, r 4 _ (by omega) rfl, r 5 _ (by omega) rfl⟩
end
theorem own_new (W : World) (B ty size : Nat) (cs : Array Value) (hB : B ≤ W.heap.size) (hs : cs.size = size) : (W.alloc (.cells cs ty)).ownsRow B ty size (.slice (some ⟨W.heap.size, 0, none⟩) 1 1) 1 cs.toList :=
  ⟨by simp [hs], .inr ⟨W.heap.size, 1, cs, rfl, hB, heap_new W _, Nat.le_refl _, by unfold maxLen; omega, by simp [hs], by simp; rw [List.take_of_length_le (by simp [hs])]⟩⟩
end Go.Proofs.YtfnhjdehlikbaaaGreatDoor.Lx
namespace Go.Proofs.YtfnhjdehlikbaaaGreatDoor.Lx
open Go.RowKit Go.Proofs.YtfnhjdehlikbaaaGreatDoorW.PrintWords
def cutB (k n : Int) (s : ByteArray) : Bool :=
  decide (0 < s.size) && (decide (kindOf (bt s 0) ≠ 0) && (decide ((nextOf s 0 (kindOf (bt s 0))).2 < 0) && (decide ((nextOf s 0 (kindOf (bt s 0))).1.kind = k) && ((nextOf s 0 (kindOf (bt s 0))).1.text.toList == s.toList && decide ((nextOf s 0 (kindOf (bt s 0))).1.num = n)))))
def ranT (t : Tok) : Bool := decide (t.kind < 1) || (decide (t.kind > 4) || (decide (t.at_ < 0) || (decide (t.at_ > 65536) || (decide (t.line < 0) || (decide (t.line > 65536) || (decide (t.col < 0) || decide (t.col > 65536)))))))
def ordT (b t : Tok) : Bool := decide (t.line < b.line) || ((decide (t.line = b.line) && decide (t.col < b.col + b.text.size)) || decide (t.at_ < b.at_ + b.text.size))
def errT (b : Option Tok) (t : Tok) : Int :=
  if ranT t = true then 3 else if cutB t.kind t.num t.text = true then (match b with | none => 0 | some b => if ordT b t = true then 15 else 0) else 4
def errG (l : List Tok) : Nat → Nat → Int × Int
  | 0, _ => (0, 0)
  | n + 1, i => if errT (if i = 0 then none else l[i - 1]?) (l[i]?.getD tokZ) = 0 then errG l n (i + 1) else ((i : Int), errT (if i = 0 then none else l[i - 1]?) (l[i]?.getD tokZ))
def errL (l : List Tok) : Int × Int := if 4000 < l.length then (0, 2) else errG l l.length 0
theorem longest_dash {s : ByteArray} (h : s.toList = [45, 45]) : s = ⟨#[45, 45]⟩ := by
  rw [ByteArray.toList_eq] at h
  exact ByteArray.ext (Array.toList_inj.1 h)
theorem decDigits_head : ∀ (m u : Nat), u ≤ m → ∀ b, (Lib.decDigits u).head? = some b → b.toNat ≠ 48 ∨ u < 10 := by
  intro m
  induction m with
  | zero => intro u hu b _; exact .inr (by omega)
  | succ m ih =>
    intro u hu b hb
    by_cases h : u < 10
    · exact .inr h
    · left
      rw [Lib.decDigits, dif_neg h] at hb
      have hne : Lib.decDigits (u / 10) ≠ [] := by
        rw [Lib.decDigits]
        split <;> simp
      have hb2 : (Lib.decDigits (u / 10)).head? = some b := by
        cases hd : Lib.decDigits (u / 10) with
        | nil => exact absurd hd hne
        | cons a q =>
          rw [hd] at hb
          simpa using hb
      rcases ih (u / 10) (by omega) b hb2 with h1 | h1
      · exact h1
      · rw [Lib.decDigits, dif_pos h1] at hb2
        simp at hb2
        rw [← hb2]
        simp
        omega
theorem kws_cut : ∀ x ∈ kws, cutB 4 0 x = true := by decide +kernel
theorem sgs_cut : ∀ x ∈ sgs, cutB 3 0 x = true := by decide +kernel
theorem nextOf_whole (s : ByteArray) (n : Int) (hn : n = s.size) : s.extract (0 : Int).toNat (0 + n).toNat = s := by
  subst hn
  have e : (0 + (s.size : Int)).toNat = s.size := by omega
  rw [e]
  show s.extract 0 s.size = s
  simp
theorem cutB_of {t : Tok} (h : WfT t) : cutB t.kind t.num t.text = true := by
  rcases h with ⟨h1, h2, h3, h4⟩ | ⟨h1, h2, h3, h4, h5, h6, h7, h8⟩ | ⟨h1, h2, h3⟩ | ⟨h1, h2, h3⟩
  · rw [h1, h2]
    unfold pathF at h3
    simp only [Bool.and_eq_true, Bool.not_eq_true', decide_eq_false_iff_not, decide_eq_true_eq] at h3
    obtain ⟨p1, p2, p3, p4⟩ := h3
    have hz : 0 < t.text.size := Nat.pos_of_ne_zero (fun e => p1 (toList_nil.2 e))
    have hk : kindOf (bt t.text 0) = 1 := by rw [kind_eq, if_pos p2]
    have hw := nextOf_whole t.text _ p3
    have e : nextOf t.text 0 1 = (⟨1, 0, t.text, 0, (posOf t.text 0).1, (posOf t.text 0).2⟩, (words t.text 0).2) := by
      simp only [nextOf, nextWord, if_true, hw, h4]
      rfl
    unfold cutB
    rw [hk, e]
    simp [hz, p4]
  · rw [h1]
    have hd0 : isDigit (bt t.text 0) = true := by
      have := takeWhile_all (fun b : UInt8 => isDigit (b.toNat : Int)) t.text.data.toList 0
      have hrun : (t.text.data.toList.takeWhile (fun b : UInt8 => isDigit (b.toNat : Int))).length = t.text.size := by
        have h9 := h3
        unfold run at h9
        rwa [List.drop_zero] at h9
      have hlen := len_data t.text
      cases hc : t.text.data.toList with
      | nil => rw [hc] at hlen; simp at hlen; omega
      | cons b l =>
        have hb := this (by omega) b (by rw [hc]; rfl)
        rw [bt_list t.text 0 (by omega), hc]
        exact hb
    have hl0 : isLetter (bt t.text 0) = false := by
      have := digit_range hd0
      unfold isLetter
      simp
      omega
    have hk : kindOf (bt t.text 0) = 2 := by rw [kind_eq, if_neg (by rw [hl0]; decide), if_pos hd0]
    have hw := nextOf_whole t.text (run isDigit t.text (0 : Int).toNat : Nat) (by rw [← h3]; rfl)
    have hlead : ¬ (1 < ((run isDigit t.text (0 : Int).toNat : Nat) : Int) ∧ bt t.text 0 = 48) := by
      rintro ⟨c1, c2⟩
      have c3 : 1 < t.text.size := by
        have : run isDigit t.text (0 : Int).toNat = t.text.size := h3
        omega
      have hi : t.text.data.toList = Lib.decDigits t.num.toNat := by
        rw [← h8]
        show (Lib.itoa t.num).toArray.toList = _
        rw [List.toList_toArray]
        unfold Lib.itoa
        rw [if_neg (by omega)]
      have hlen := len_data t.text
      have hb0 : bt t.text 0 = (((t.text.data.toList[(0 : Int).toNat]?).getD 0).toNat : Int) := bt_list t.text 0 (by omega)
      cases hc : t.text.data.toList with
      | nil => rw [hc] at hlen; simp at hlen; omega
      | cons b l =>
        have hh : (Lib.decDigits t.num.toNat).head? = some b := by rw [← hi, hc]; rfl
        rcases decDigits_head _ _ (Nat.le_refl _) b hh with g | g
        · rw [hc] at hb0
          have : bt t.text 0 = (b.toNat : Int) := hb0
          omega
        · rw [Lib.decDigits, dif_pos g] at hi
          rw [hi] at hlen
          simp at hlen
          omega
    have e : nextOf t.text 0 2 = (⟨2, number t.text, t.text, 0, (posOf t.text 0).1, (posOf t.text 0).2⟩, -1) := by
      simp only [nextOf, nextNum, show ¬ (2 : Int) = 1 by omega, if_false, if_true, hw]
      rw [if_neg (by omega), if_neg hlead]
    unfold cutB
    rw [hk, e]
    simp [h4, h5]
  · rw [h1, h2]
    unfold among at h3
    rw [List.any_eq_true] at h3
    obtain ⟨x, hx, he⟩ := h3
    have : t.text = x := by
      rw [beq_iff_eq, ByteArray.toList_eq, ByteArray.toList_eq] at he
      exact ByteArray.ext (Array.toList_inj.1 he)
    rw [this]
    exact sgs_cut x hx
  · rw [h1, h2]
    unfold isKw at h3
    rw [List.any_eq_true] at h3
    obtain ⟨x, hx, he⟩ := h3
    rw [← beq_toList, beq_iff_eq, ByteArray.toList_eq, ByteArray.toList_eq] at he
    rw [show t.text = x from ByteArray.ext (Array.toList_inj.1 he)]
    exact kws_cut x hx
theorem errT_good {b : Option Tok} {t : Tok} (h : GoodT (b.getD tokZ) t) : errT b t = 0 := by
  have hr : ranT t = false := by
    obtain ⟨k1, k2⟩ := h.wf.kind
    have := h.a0; have := h.a1; have := h.l0; have := h.l1; have := h.c0; have := h.c1
    unfold ranT
    simp only [Bool.or_eq_false_iff, decide_eq_false_iff_not]
    omega
  unfold errT
  rw [if_neg (by rw [hr]; decide), if_pos (cutB_of h.wf)]
  cases b with
  | none => rfl
  | some b =>
    have ho : ordT b t = false := by
      have g1 := h.line; have g2 := h.same; have g3 := h.at_
      simp only [Option.getD_some] at g1 g2 g3
      unfold ordT
      simp only [Bool.or_eq_false_iff, Bool.and_eq_false_iff, decide_eq_false_iff_not]
      refine ⟨by omega, ?_, by omega⟩
      by_cases e : t.line = b.line
      · exact .inr (by have := g2 e.symm; omega)
      · exact .inl e
    simp [ho]
end Go.Proofs.YtfnhjdehlikbaaaGreatDoor.Lx
namespace Go.Proofs.YtfnhjdehlikbaaaGreatDoor.Lx
open Go.RowKit Go.Proofs.YtfnhjdehlikbaaaGreatDoorW.PrintWords
theorem cut_good {t : Tok} (h : WfT t) (hs : t.text.size ≤ 65536) (W : World) : CutTo t.text 0 W t.kind t.num t.text (-1) true := by
  have hc := cutB_of h
  unfold cutB at hc
  simp only [Bool.and_eq_true, decide_eq_true_eq, beq_iff_eq] at hc
  obtain ⟨c1, c2, c3, c4, c5, c6⟩ := hc
  have hr := refCut_any t.text (by omega) 0 (by omega) (by omega)
  rw [if_neg c2] at hr
  obtain ⟨v, hv, hw⟩ := hr
  have h2 := hw W
  rw [hv c3, c4, c6, ab_neg c3] at h2
  have he : (nextOf t.text 0 (kindOf (bt t.text 0))).1.text = t.text := by
    rw [ByteArray.toList_eq, ByteArray.toList_eq] at c5
    exact ByteArray.ext (Array.toList_inj.1 c5)
  rwa [he] at h2
theorem no_dash {t : Tok} (h : WfT t) : (t.text.toList == [45, 45]) = false := by
  rw [beq_eq_false_iff_ne]
  intro h5
  have hc := cutB_of h
  rw [longest_dash h5] at hc
  revert hc
  have : ∀ k n, cutB k n ⟨#[45, 45]⟩ = false := by
    intro k n
    have e : ((nextOf ⟨#[45, 45]⟩ 0 (kindOf (bt ⟨#[45, 45]⟩ 0))).1.text.toList == (⟨#[45, 45]⟩ : ByteArray).toList) = false := by decide +kernel
    unfold cutB
    rw [e]
    simp
  rw [this]
  decide
structure BoxAt (b : Nat) (t : Tok) (W : World) : Prop where
  box : W.heap[b]? = some (.cells t.cells 121)
theorem BoxAt.step {b : Nat} {t : Tok} {W W' : World} (h : BoxAt b t W) (hb : Below W.heap.size W W') : BoxAt b t W' := ⟨(hb.block _ (heap_lt h.box)).trans h.box⟩
theorem BoxAt.cells {b : Nat} {t : Tok} {W : World} (h : BoxAt b t W) :
    W.cell? ⟨b, 0, none⟩ = some (.int .i64 t.kind) ∧ W.cell? ⟨b, 1, none⟩ = some (.int .i64 t.num) ∧ W.cell? ⟨b, 2, none⟩ = some (.string t.text) ∧ W.cell? ⟨b, 3, none⟩ = some (.int .i64 t.at_) ∧ W.cell? ⟨b, 4, none⟩ = some (.int .i64 t.line) ∧ W.cell? ⟨b, 5, none⟩ = some (.int .i64 t.col) :=
  ⟨cell_of h.box 0, cell_of h.box 1, cell_of h.box 2, cell_of h.box 3, cell_of h.box 4, cell_of h.box 5⟩
set_option maxRecDepth 100000 in
set_option maxHeartbeats 16000000 in
theorem refRight_any (l : List Tok) (A : Option Addr) (c : Nat) (w : World) (hl : l.length ≤ 4000) (hg : GoodL l) (hT : SrcC A l w) :
    Calls Tryz.prog 108 #[.slice A l.length c] w fun e w' => e = .returned (.tuple #[.int .i64 0, .int .i64 0]) ∧ Below w.heap.size w w' := by
  have HG := Aside0.mk hg
  have HS := Aside0.mk hT
  clear hg hT
  obtain ⟨n, hn⟩ : ∃ n, l.length = n := ⟨_, rfl⟩
  rw [hn] at hl ⊢
  have HN := Aside0.mk hn
  clear hn
  go_enter Tryz.func108, Tryz.ntmps108
  go_wp2
  go_loopg [4] n (fun f t4 wr => ∃ i : Nat, t4 = .int .i64 (i : Int) ∧ i + f = n ∧ Aside0 (Below w.heap.size w wr))
  case atStart => exact ⟨0, rfl, by omega, ⟨Below.refl _ _⟩⟩
  case round =>
    obtain ⟨i, rfl, hif, HB⟩ := hrel
    by_cases hi : i < n
    · cases gk with
      | zero => omega
      | succ f =>
        have hlt : i < l.length := by rw [HN.out]; exact hi
        have hi2 : (i : Int) < (n : Int) := by omega
        have hti := List.getElem?_eq_getElem hlt
        have hgt := HG.out i _ hti
        have HSB := Aside0.mk (HS.out.below HB.out)
        obtain ⟨g, hAg, x0, x1, x2, x3, x4, x5⟩ := HSB.out i _ hti
        generalize l[i] = t at hgt x0 x1 x2 x3 x4 x5
        have HCUT := cut_good hgt.wf hgt.sz
        have hnd := no_dash hgt.wf
        obtain ⟨hk1, hk2⟩ := hgt.wf.kind
        have hb1 : ∀ u, i ≠ 0 → l[i - 1]? = some u → GoodT u t := fun u h0 hu => by
          rw [if_neg h0, hu] at hgt
          exact hgt
        have hb2 : ∀ u, i ≠ 0 → l[i - 1]? = some u → 0 ≤ u.at_ ∧ u.at_ ≤ 65536 ∧ 0 ≤ u.col ∧ u.col ≤ 65536 ∧ u.text.size ≤ 65536 := fun u h0 hu => by
          have := HG.out (i - 1) _ hu
          exact ⟨this.a0, this.a1, this.c0, this.c1, this.sz⟩
        have HB1 := Aside0.mk hb1
        have HB2 := Aside0.mk hb2
        obtain ⟨hwf, g1, g2, g3, g4, g5, g6, g7, g8, g9, g10⟩ := hgt
        obtain ⟨tk, tn, tx, ta, tl, tc⟩ := t
        simp only at x0 x1 x2 x3 x4 x5 HCUT hnd hk1 hk2 g1 g2 g3 g4 g5 g6 g7
        have HC : Aside0 (∀ W : World, Calls Tryz.prog 81 #[.string tx, .int .i64 0] W fun e w' => e = .returned (.tuple #[.agg #[.int .i64 tk, .int .i64 tn, .string tx, .int .i64 0, .int .i64 0, .int .i64 0], .int .i64 (-1), .bool true]) ∧ Below W.heap.size W w') := ⟨HCUT⟩
        have n1 : decide (tk < 1) = false := by simp; omega
        have n2 : decide (tk > 4) = false := by simp; omega
        have n3 : decide (ta < 0) = false := by simp; omega
        have n4 : decide (ta > 65536) = false := by simp; omega
        have n5 : decide (tl < 0) = false := by simp; omega
        have n6 : decide (tl > 65536) = false := by simp; omega
        have n7 : decide (tc < 0) = false := by simp; omega
        have n8 : decide (tc > 65536) = false := by simp; omega
        have hgw : g < wr.heap.size := World.block_lt_of_cell? _ _ x0
        have hkk : (tk != tk) = false := bne_self_eq_false _
        have hnn : (tn != tn) = false := bne_self_eq_false _
        have hxx : (tx.toList != tx.toList) = false := bne_self_eq_false _
        subst hAg
        clear HCUT hti hlt hb1 hb2 hwf g1 g2 g3 g4 g5 g6 g7 g8 g9 g10 hk1 hk2
        have HI2 := Aside0.mk hi
        by_cases h0 : i = 0
        · have hgt0 : decide ((i : Int) > 0) = false := by simp; omega
          have hgt1 : decide (0 < (i : Int)) = false := by simp; omega
          have hgt2 : decide (0 < i) = false := by simp; omega
          clear h0
          go_wp2_with (go_at_call 81; (with_reducible refine (HC.out _).mono ?_); rintro e w2 ⟨rfl, hb⟩; have HCB := Aside0.mk (((Below.refl _ wr).alloc (Nat.le_refl _) (.cells #[.int .i64 tk, .int .i64 tn, .string tx, .int .i64 ta, .int .i64 tl, .int .i64 tc] 121)).trans (hb.mono (by simp))); have hb2 := hb.block wr.heap.size (by simp); obtain ⟨y0, y1, y2, y3, y4, y5⟩ := (BoxAt.mk (t := ⟨tk, tn, tx, ta, tl, tc⟩) (hb2.trans (heap_new wr _))).cells; simp only at y0 y1 y2 y3 y4 y5; have hw2 : wr.heap.size < w2.heap.size := Nat.lt_of_lt_of_le (by simp) hb.size; clear hb hb2)
          go_roundg f
          case measure => omega
          case rel => exact ⟨i + 1, by go_num, by omega, ⟨HB.out.trans ((HCB.out.alloc HCB.out.size _).mono HB.out.size)⟩⟩
        · have hgt0 : decide ((i : Int) > 0) = true := by simp; omega
          have hgt1 : decide (0 < (i : Int)) = true := by simp; omega
          have hgt2 : decide (0 < i) = true := by simp; omega
          obtain ⟨m, hm⟩ : ∃ m : Nat, i = m + 1 := ⟨i - 1, by omega⟩
          have hm1 : m < l.length := by rw [HN.out]; omega
          have htm : l[i - 1]? = some l[m] := by rw [show i - 1 = m by omega]; exact List.getElem?_eq_getElem hm1
          have q1 := HB1.out _ h0 htm
          have q2 := HB2.out _ h0 htm
          have hsm : ∀ W, SrcC (some ⟨g, 0, none⟩) l W → W.cell? ⟨g, m * 6, none⟩ = some (.int .i64 l[m].kind) ∧ W.cell? ⟨g, m * 6 + 1, none⟩ = some (.int .i64 l[m].num) ∧ W.cell? ⟨g, m * 6 + 2, none⟩ = some (.string l[m].text) ∧ W.cell? ⟨g, m * 6 + 3, none⟩ = some (.int .i64 l[m].at_) ∧ W.cell? ⟨g, m * 6 + 4, none⟩ = some (.int .i64 l[m].line) ∧ W.cell? ⟨g, m * 6 + 5, none⟩ = some (.int .i64 l[m].col) := fun W h => by
            obtain ⟨g', hAg', hh⟩ := h m _ (List.getElem?_eq_getElem hm1)
            injection hAg' with hAg'
            injection hAg' with hAg'
            subst hAg'
            exact hh
          generalize l[m] = u at q1 q2 hsm
          obtain ⟨_, _, _, _, _, _, _, _, p1, p2, p3⟩ := q1
          obtain ⟨bk, bn, bx, ba, bl, bc⟩ := u
          simp only at p1 p2 p3 q2 hsm
          have HSM := Aside0.mk hsm
          obtain ⟨r1, r2, r3, r4, r5⟩ := q2
          have wm : IntKind.i64.wrap ((i : Int) - 1) = (m : Int) := by rw [IntWalk.i64_in _ (by omega)]; omega
          have hmn : (m : Int) < (n : Int) := by omega
          have hm0 : (0 : Int) ≤ (m : Int) := by omega
          have wc : IntKind.i64.wrap (bc + (bx.size : Int)) = bc + bx.size := IntWalk.i64_in _ (by omega)
          have wa : IntKind.i64.wrap (ba + (bx.size : Int)) = ba + bx.size := IntWalk.i64_in _ (by omega)
          have o1 : decide (tl < bl) = false := by simp; omega
          have o2 : decide (ta < ba + (bx.size : Int)) = false := by simp; omega
          clear htm hm1 p1 p3 r1 r2 r3 r4 r5 hsm h0 hm
          by_cases he : bl = tl
          · have o3 : (tl == bl) = true := by rw [he]; exact beq_self_eq_true _
            have o4 : decide (tc < bc + (bx.size : Int)) = false := by have := p2 he; simp; omega
            clear he p2
            go_wp2_with (go_at_call 81; (with_reducible refine (HC.out _).mono ?_); rintro e w2 ⟨rfl, hb⟩; have HCB := Aside0.mk (((Below.refl _ wr).alloc (Nat.le_refl _) (.cells #[.int .i64 tk, .int .i64 tn, .string tx, .int .i64 ta, .int .i64 tl, .int .i64 tc] 121)).trans (hb.mono (by simp))); have hb2 := hb.block wr.heap.size (by simp); obtain ⟨y0, y1, y2, y3, y4, y5⟩ := (BoxAt.mk (t := ⟨tk, tn, tx, ta, tl, tc⟩) (hb2.trans (heap_new wr _))).cells; simp only at y0 y1 y2 y3 y4 y5; have hw2 : wr.heap.size < w2.heap.size := Nat.lt_of_lt_of_le (by simp) hb.size; obtain ⟨z0, z1, z2, z3, z4, z5⟩ := HSM.out w2 (HSB.out.below HCB.out); have hgw2 : g < w2.heap.size := World.block_lt_of_cell? _ _ z0; clear hb hb2)
            go_roundg f
            case measure => omega
            case rel => exact ⟨i + 1, by go_num, by omega, ⟨HB.out.trans (((HCB.out.alloc HCB.out.size _).alloc (HCB.out.alloc HCB.out.size _).size _).mono HB.out.size)⟩⟩
          · have o3 : (tl == bl) = false := beq_eq_false_iff_ne.2 (fun h => he h.symm)
            clear he p2
            go_wp2_with (go_at_call 81; (with_reducible refine (HC.out _).mono ?_); rintro e w2 ⟨rfl, hb⟩; have HCB := Aside0.mk (((Below.refl _ wr).alloc (Nat.le_refl _) (.cells #[.int .i64 tk, .int .i64 tn, .string tx, .int .i64 ta, .int .i64 tl, .int .i64 tc] 121)).trans (hb.mono (by simp))); have hb2 := hb.block wr.heap.size (by simp); obtain ⟨y0, y1, y2, y3, y4, y5⟩ := (BoxAt.mk (t := ⟨tk, tn, tx, ta, tl, tc⟩) (hb2.trans (heap_new wr _))).cells; simp only at y0 y1 y2 y3 y4 y5; have hw2 : wr.heap.size < w2.heap.size := Nat.lt_of_lt_of_le (by simp) hb.size; obtain ⟨z0, z1, z2, z3, z4, z5⟩ := HSM.out w2 (HSB.out.below HCB.out); have hgw2 : g < w2.heap.size := World.block_lt_of_cell? _ _ z0; clear hb hb2)
            go_roundg f
            case measure => omega
            case rel => exact ⟨i + 1, by go_num, by omega, ⟨HB.out.trans (((HCB.out.alloc HCB.out.size _).alloc (HCB.out.alloc HCB.out.size _).size _).mono HB.out.size)⟩⟩
    · obtain rfl : i = n := by omega
      go_wp2
      go_ret2
      exact ⟨rfl, HB.out⟩
end Go.Proofs.YtfnhjdehlikbaaaGreatDoor.Lx
namespace Go.Proofs.YtfnhjdehlikbaaaGreatDoor.Lx
open Go.RowKit Go.Proofs.YtfnhjdehlikbaaaGreatDoorW.PrintWords
def isPath (s : ByteArray) (k : Int) (t : ByteArray) (wrong : Int) (is : Bool) : Bool := is && (t.size == s.size && (decide (wrong < 0) && (k == 1 || k == 4)))
set_option maxRecDepth 100000 in
set_option maxHeartbeats 8000000 in
theorem isPath_at (s : ByteArray) (r1 r2 : Int) (r3 : ByteArray) (r7 : Int) (r8 : Bool) (w : World) (h : ∀ W, CutTo s 0 W r1 r2 r3 r7 r8) :
    Calls Tryz.prog 47 #[.string s] w fun e w' => e = .returned (.bool (isPath s r1 r3 r7 r8)) ∧ Below w.heap.size w w' := by
  have HC : Aside0 (∀ W : World, Calls Tryz.prog 81 #[.string s, .int .i64 0] W fun e w' => e = .returned (.tuple #[.agg #[.int .i64 r1, .int .i64 r2, .string r3, .int .i64 0, .int .i64 0, .int .i64 0], .int .i64 r7, .bool r8]) ∧ Below W.heap.size W w') := ⟨h⟩
  clear h
  unfold isPath
  cases r8 with
  | false =>
    go_enter Tryz.func47, Tryz.ntmps47
    go_wp2_with (go_at_call 81; (with_reducible refine (HC.out _).mono ?_); rintro e w1 ⟨rfl, hb⟩; have HB := Aside0.mk hb; clear hb)
    repeat (go_quiet (fail); try go_wp2)
    go_ret
    exact ⟨rfl, HB.out.alloc HB.out.size _⟩
  | true =>
    by_cases c1 : (r3.size : Int) = (s.size : Int)
    · have c1b : ((r3.size : Int) == (s.size : Int)) = true := beq_iff_eq.mpr c1
      have c1n : (r3.size == s.size) = true := by rw [Int.ofNat_inj.1 c1]; exact beq_self_eq_true _
      clear c1
      by_cases c2 : r7 < 0
      · have c2b : decide (r7 < 0) = true := decide_eq_true c2
        clear c2
        by_cases c3 : r1 = 1
        · have c3b : (r1 == 1) = true := beq_iff_eq.mpr c3
          clear c3
          go_enter Tryz.func47, Tryz.ntmps47
          go_wp2_with (go_at_call 81; (with_reducible refine (HC.out _).mono ?_); rintro e w1 ⟨rfl, hb⟩; have HB := Aside0.mk hb; clear hb)
          repeat (go_quiet (fail); try go_wp2)
          go_ret
          exact ⟨by simp [*], HB.out.alloc HB.out.size _⟩
        · have c3b : (r1 == 1) = false := beq_eq_false_iff_ne.mpr c3
          clear c3
          go_enter Tryz.func47, Tryz.ntmps47
          go_wp2_with (go_at_call 81; (with_reducible refine (HC.out _).mono ?_); rintro e w1 ⟨rfl, hb⟩; have HB := Aside0.mk hb; clear hb)
          repeat (go_quiet (fail); try go_wp2)
          go_ret
          exact ⟨by simp [*], HB.out.alloc HB.out.size _⟩
      · have c2b : decide (r7 < 0) = false := decide_eq_false c2
        clear c2
        go_enter Tryz.func47, Tryz.ntmps47
        go_wp2_with (go_at_call 81; (with_reducible refine (HC.out _).mono ?_); rintro e w1 ⟨rfl, hb⟩; have HB := Aside0.mk hb; clear hb)
        repeat (go_quiet (fail); try go_wp2)
        go_ret
        exact ⟨by simp [*], HB.out.alloc HB.out.size _⟩
    · have c1b : ((r3.size : Int) == (s.size : Int)) = false := beq_eq_false_iff_ne.mpr c1
      have c1n : (r3.size == s.size) = false := beq_eq_false_iff_ne.mpr (fun h => c1 (by rw [h]))
      clear c1
      go_enter Tryz.func47, Tryz.ntmps47
      go_wp2_with (go_at_call 81; (with_reducible refine (HC.out _).mono ?_); rintro e w1 ⟨rfl, hb⟩; have HB := Aside0.mk hb; clear hb)
      repeat (go_quiet (fail); try go_wp2)
      go_ret
      exact ⟨by simp [*], HB.out.alloc HB.out.size _⟩
theorem path_cut (s : ByteArray) (hs : s.size ≤ 140737488351000) : ∃ r1 r2 r3 r7 r8, (∀ W, CutTo s 0 W r1 r2 r3 r7 r8) ∧ isPath s r1 r3 r7 r8 = pathF s := by
  by_cases h0 : s.size = 0
  · refine ⟨0, 0, ⟨#[]⟩, -1, false, fun W => cut_end s 0 W (by omega), ?_⟩
    unfold pathF isPath
    rw [toList_nil.2 h0]
    rfl
  · have hpos : (0 : Int) < s.size := by omega
    have hnil : decide (s.toList = []) = false := decide_eq_false (fun h => h0 (toList_nil.1 h))
    have hc := refCut_any s hs 0 (by omega) hpos
    have hk := kind_eq s 0
    by_cases hkz : kindOf (bt s 0) = 0
    · rw [if_pos hkz] at hc
      have hl : isLetter (bt s 0) = false := by
        cases hh : isLetter (bt s 0) with
        | false => rfl
        | true => rw [hh, if_pos rfl] at hk; omega
      refine ⟨0, 0, ⟨#[]⟩, -1, false, hc, ?_⟩
      unfold pathF isPath
      rw [hl]
      simp
    · rw [if_neg hkz] at hc
      obtain ⟨v, _, hev⟩ := hc
      refine ⟨_, _, _, _, _, hev, ?_⟩
      by_cases hl : isLetter (bt s 0) = true
      · rw [if_pos hl] at hk
        rw [hk]
        obtain ⟨b1, b2, b3, b4⟩ := words_le s 0 (by omega) (by omega)
        have hn : nextOf s 0 1 = nextWord s 0 := rfl
        rw [hn]
        unfold nextWord pathF isPath
        simp only
        rw [extract_size _ _ _ (by omega) (by omega), hnil, hl]
        generalize (words s 0) = W at *
        obtain ⟨n, bad⟩ := W
        simp only at *
        have e1 : ((0 + n).toNat - (0 : Int).toNat == s.size) = decide (n = (s.size : Int)) := by
          by_cases h1 : n = (s.size : Int)
          · rw [decide_eq_true h1, beq_iff_eq]; omega
          · rw [decide_eq_false h1, beq_eq_false_iff_ne]; omega
        have e2 : decide (ab 0 bad < 0) = decide (bad < 0) := by
          by_cases h2 : bad < 0
          · rw [ab_neg h2, decide_eq_true h2]; rfl
          · rw [ab_pos (by omega), decide_eq_false h2, decide_eq_false (by omega)]
        rw [e1, e2]
        have e3 : ∀ b : Bool, (((if b = true then 4 else 1 : Int) == 1) || ((if b = true then 4 else 1 : Int) == 4)) = true := by decide
        rw [e3]
        simp
      · rw [if_neg hl] at hk
        have hp : pathF s = false := by unfold pathF; rw [show isLetter (bt s 0) = false by simpa using hl]; simp
        rw [hp]
        have hkk : (nextOf s 0 (kindOf (bt s 0))).1.kind = 2 ∨ (nextOf s 0 (kindOf (bt s 0))).1.kind = 3 := by
          split at hk
          · rw [hk]; left; rfl
          · split at hk
            · rw [hk]; right; rfl
            · exact absurd hk hkz
        unfold isPath
        rcases hkk with h | h <;> rw [h] <;> simp
theorem refPath_any (s : ByteArray) (w : World) (hs : s.size ≤ 140737488351000) : Calls Tryz.prog 47 #[.string s] w fun e w' => e = .returned (.bool (pathF s)) ∧ Below w.heap.size w w' := by
  obtain ⟨r1, r2, r3, r7, r8, hc, hp⟩ := path_cut s hs
  rw [← hp]
  exact isPath_at s r1 r2 r3 r7 r8 w hc
theorem srcC_reads {W : World} {B : Nat} {v : Value} {l : List Tok} (h : Kd.R kTok 54 W B (fun _ => True) v l) : ∃ A c, v = .slice A l.length c ∧ l.length ≤ c ∧ SrcC A l W := by
  obtain ⟨A, c, hv, hT⟩ := srcT_of_R h
  obtain ⟨A2, c2, hv2, hc2, _⟩ := Kd.R_reads h
  rw [hv] at hv2
  injection hv2 with e1 e2 e3
  subst e1 e3
  exact ⟨A, c, hv, hc2, hT.srcC⟩
set_option maxRecDepth 100000 in
set_option maxHeartbeats 8000000 in
theorem equal_any (l : List Tok) (hl : l.length ≤ 1000000) (A0 A1 : Option Addr) (c0 c1 : Nat) (w : World) (h0 : SrcC A0 l w) (hc0 : l.length ≤ c0) (h1 : SrcC A1 l w) (hc1 : l.length ≤ c1) :
    Calls Tryz.prog 29 #[.slice A0 l.length c0, .slice A1 l.length c1] w fun e w' => e = .returned (.bool true) ∧ Below w.heap.size w w' := by
  have HS0 := Aside0.mk h0
  have HS1 := Aside0.mk h1
  clear h0 h1
  obtain ⟨n, hn⟩ : ∃ n, l.length = n := ⟨_, rfl⟩
  rw [hn] at hl hc0 hc1 ⊢
  have HN := Aside0.mk hn; clear hn
  have c3b0 : ((n : Int) == (n : Int)) = true := beq_self_eq_true _
  have c3b1 : ((n : Int) != (n : Int)) = false := bne_self_eq_false _
  go_enter Tryz.func29, Tryz.ntmps29
  go_wp2
  repeat (go_quiet (fail); try go_wp2)
  go_loopg [13] n (fun f t13 wr => ∃ (i : Nat), t13 = .int .i64 (i : Int) ∧ i + f = n ∧ Aside0 (Below w.heap.size w wr))
  case atStart => exact ⟨0, rfl, by omega, ⟨Below.refl _ _⟩⟩
  case round =>
    obtain ⟨i, rfl, hif, hB⟩ := hrel
    have HB := Aside0.mk hB.out
    clear hB
    by_cases hi : i < n
    · cases gk with
      | zero => omega
      | succ f =>
        have hlt : i < l.length := by rw [HN.out]; exact hi
        have hti := List.getElem?_eq_getElem hlt
        obtain ⟨g0, e0, x0, x1, x2, x3, x4, x5⟩ := (HS0.out.below HB.out) i _ hti
        obtain ⟨g1, e1, y0, y1, y2, y3, y4, y5⟩ := (HS1.out.below HB.out) i _ hti
        subst e0 e1
        generalize l[i] = t at x0 x1 x2 x3 x4 x5 y0 y1 y2 y3 y4 y5
        obtain ⟨tk, tn, tx, ta, tl, tc⟩ := t
        simp only at x0 x1 x2 x3 x4 x5 y0 y1 y2 y3 y4 y5
        have c8b0 : (!(tk == tk) || (!(tn == tn) || (!(tx.toList == tx.toList) || (!(ta == ta) || (!(tl == tl) || (!(tc == tc))))))) = false := by simp
        have hi2 : (i : Int) < (n : Int) := by omega
        clear hti hlt
        go_wp2
        repeat (go_quiet (fail); try go_wp2)
        go_roundg f
        case measure => omega
        case rel => exact ⟨i + 1, by go_num, by omega, by first | exact HB | exact ⟨HB.out.trans ((bdrewN _ _).mono HB.out.size)⟩⟩
    · obtain rfl : i = n := by omega
      go_wp2
      repeat (go_quiet (fail); try go_wp2)
      go_ret
      exact ⟨rfl, HB.out⟩
end Go.Proofs.YtfnhjdehlikbaaaGreatDoor.Lx
namespace Go.Proofs.YtfnhjdehlikbaaaGreatDoor.Lx
open Go.RowKit Go.Proofs.YtfnhjdehlikbaaaGreatDoorW.PrintWords
theorem topF_snoc (st : List Lev) (v : Lev) : topF (st ++ [v]) = v := by simp [topF]
theorem shutF_nil (p : Lev → Bool) (t : Tok) (out : List Tok) : shutF p t [] out = ([], out) := rfl
theorem shutF_stop {p : Lev → Bool} {t : Tok} {st : List Lev} {v : Lev} {out : List Tok} (h : (v.block && p v) = false) : shutF p t (st ++ [v]) out = (st ++ [v], out) := by
  unfold shutF
  rw [shutL, topF_snoc, if_neg (by rw [h]; decide)]
theorem shutF_go {p : Lev → Bool} {t : Tok} {st : List Lev} {v : Lev} {out : List Tok} (h : (v.block && p v) = true) : shutF p t (st ++ [v]) out = shutF p t st (out ++ [markF 7 t]) := by
  unfold shutF
  rw [shutL, topF_snoc, if_pos h, List.length_append]
  simp
theorem shutF_take (p : Lev → Bool) (t : Tok) : ∀ (n : Nat) (st : List Lev) (out : List Tok), st.length = n → ∃ k, (shutF p t st out).1 = st.take k := by
  intro n
  induction n with
  | zero => intro st out h; exact ⟨0, by rw [List.eq_nil_of_length_eq_zero h]; rfl⟩
  | succ n ih =>
    intro st out h
    rcases List.eq_nil_or_concat st with rfl | ⟨s, v, rfl⟩
    · simp at h
    · rw [List.concat_eq_append] at *
      have hs : s.length = n := by simpa using h
      cases hp : (v.block && p v) with
      | true =>
        rw [shutF_go hp]
        obtain ⟨k, hk⟩ := ih s (out ++ [markF 7 t]) hs
        exact ⟨min k n, by rw [hk, List.take_append_of_le_length (by rw [hs]; exact Nat.min_le_right _ _), ← hs, List.take_eq_take_min]⟩
      | false =>
        rw [shutF_stop hp]
        exact ⟨(s ++ [v]).length, by rw [List.take_length]⟩
theorem shutF_any (t : Tok) : ∀ (n : Nat) (st : List Lev) (out : List Tok), st.length = n → (shutF anyL t st out).1 ≠ [] → (topF (shutF anyL t st out).1).block = false := by
  intro n
  induction n with
  | zero => intro st out h; rw [List.eq_nil_of_length_eq_zero h]; intro hh; exact absurd rfl hh
  | succ n ih =>
    intro st out h
    rcases List.eq_nil_or_concat st with rfl | ⟨s, v, rfl⟩
    · simp at h
    · rw [List.concat_eq_append] at *
      have hs : s.length = n := by simpa using h
      cases hp : (v.block && anyL v) with
      | true =>
        rw [shutF_go hp]
        exact ih s _ hs
      | false =>
        rw [shutF_stop hp, topF_snoc]
        intro _
        simpa [anyL] using hp
def Base (st : List Lev) : Prop := ∃ v, st.head? = some v ∧ v.block = true
theorem Base.ne {st : List Lev} (h : Base st) : st ≠ [] := by
  rintro rfl
  obtain ⟨v, h, _⟩ := h
  cases h
theorem Base.app {st : List Lev} (h : Base st) (l : List Lev) : Base (st ++ l) := by
  obtain ⟨v, h, hb⟩ := h
  refine ⟨v, ?_, hb⟩
  rw [List.head?_append, h]
  rfl
theorem Base.take {st : List Lev} (h : Base st) {k : Nat} (hk : st.take k ≠ []) : Base (st.take k) := by
  obtain ⟨v, h, hb⟩ := h
  cases st with
  | nil => cases h
  | cons a st =>
    cases k with
    | zero => exact absurd rfl hk
    | succ k => exact ⟨v, h, hb⟩
theorem Base.oneA {st : List Lev} (h : Base st) {t : Tok} {begins : Bool} {out : List Tok} (hb : badA t begins st out = false) : Base (oneA t begins st out).1 := by
  unfold badA at hb
  unfold Lx.oneA
  cases begins with
  | false => exact h
  | true =>
    rw [if_pos rfl]
    rw [Bool.true_and] at hb
    obtain ⟨k, hk⟩ := shutF_take (deeper t) t _ st out rfl
    simp only
    rw [hk] at hb ⊢
    exact h.take (fun e => by rw [e] at hb; cases hb)
theorem Base.oneB {st : List Lev} (h : Base st) {t : Tok} {out : List Tok} (hb : badB t st out = false) : Base (oneB t st out).1 := by
  unfold badB at hb
  unfold Lx.oneB
  by_cases hc : closing t = true
  · rw [hc, Bool.true_and, Bool.or_eq_false_iff] at hb
    rw [if_pos hc]
    obtain ⟨k, hk⟩ := shutF_take anyL t _ st out rfl
    have hne : (shutF anyL t st out).1 ≠ [] := fun e => by rw [e] at hb; cases hb.1
    have htop := shutF_any t _ st out rfl hne
    have hB : Base (shutF anyL t st out).1 := by rw [hk] at hne ⊢; exact h.take hne
    simp only
    generalize (shutF anyL t st out).1 = s at hB htop
    rcases List.eq_nil_or_concat s with rfl | ⟨s, v, rfl⟩
    · exact absurd rfl hB.ne
    · rw [List.concat_eq_append] at *
      rw [topF_snoc] at htop
      rw [List.dropLast_concat]
      obtain ⟨u, hu, hub⟩ := hB
      cases s with
      | nil =>
        simp at hu
        rw [hu] at htop
        rw [htop] at hub
        cases hub
      | cons a s => exact ⟨u, hu, hub⟩
  · rw [if_neg hc]
    exact h
theorem Base.oneC {st : List Lev} (h : Base st) (t nx : Tok) (more : Bool) (out : List Tok) : Base (oneC t nx more st out).1.1 := by
  unfold Lx.oneC
  split
  · exact h.app _
  · split
    · split
      · exact h.app _
      · exact h
    · exact h
theorem Base.high {st : List Lev} (h : Base st) : highF st = (lastF st).col := by
  obtain ⟨v, h, hb⟩ := h
  unfold highF lastF
  cases hf : st.reverse.find? (·.block) with
  | some u => rfl
  | none =>
    rw [List.find?_eq_none] at hf
    have := hf v (by rw [List.mem_reverse]; exact List.mem_of_mem_head? h)
    exact absurd hb this
theorem among_mem {l : List ByteArray} {s : ByteArray} : among l s = true ↔ s ∈ l := by
  unfold among
  rw [List.any_eq_true]
  constructor
  · rintro ⟨x, hx, he⟩
    rw [beq_iff_eq, ByteArray.toList_eq, ByteArray.toList_eq] at he
    rwa [show s = x from ByteArray.ext (Array.toList_inj.1 he)]
  · exact fun h => ⟨s, h, by simp⟩
theorem special_path : ∀ x ∈ closers ++ openers, ¬ (pathF x = true ∧ isKw x = false) := by decide +kernel
theorem special_digit : ∀ x ∈ closers ++ openers, run isDigit x 0 ≠ x.size := by decide +kernel
theorem special_sign {t : Tok} (h : WfT t) (hx : t.text ∈ closers ++ openers) : t.sign = true := by
  rcases h with ⟨_, _, h3, h4⟩ | ⟨_, _, h3, _⟩ | ⟨h1, _⟩ | ⟨h1, _⟩
  · exact absurd ⟨h3, h4⟩ (special_path _ hx)
  · exact absurd h3 (special_digit _ hx)
  · unfold Tok.sign; rw [h1]; rfl
  · unfold Tok.sign; rw [h1]; rfl
theorem closing_wf {t : Tok} (h : WfT t) : closing t = among closers t.text := by
  unfold closing
  cases ha : among closers t.text with
  | false => rw [Bool.and_false]
  | true => rw [special_sign h (List.mem_append_left _ (among_mem.1 ha)), Bool.and_true]
theorem opening_wf {t : Tok} (h : WfT t) : opening t = among openers t.text := by
  unfold opening
  cases ha : among openers t.text with
  | false => rw [Bool.and_false]
  | true => rw [special_sign h (List.mem_append_right _ (among_mem.1 ha)), Bool.and_true]
theorem withs_closer {s : ByteArray} (h : sq s [119, 105, 116, 104] = true) : s = ⟨#[119, 105, 116, 104]⟩ := by
  unfold sq at h
  rw [beq_iff_eq, ByteArray.toList_eq] at h
  exact ByteArray.ext (Array.toList_inj.1 h)
theorem withs_wf {t : Tok} (h : WfT t) : withs t = sq t.text [119, 105, 116, 104] := by
  unfold withs
  cases ha : sq t.text [119, 105, 116, 104] with
  | false => rw [Bool.and_false]
  | true => rw [special_sign h (List.mem_append_left _ (by rw [withs_closer ha]; simp [closers])), Bool.and_true]
theorem opener_not_with {s : ByteArray} (h : among openers s = true) : sq s [119, 105, 116, 104] = false := by
  cases ha : sq s [119, 105, 116, 104] with
  | false => rfl
  | true =>
    rw [withs_closer ha] at h
    revert h
    decide +kernel
end Go.Proofs.YtfnhjdehlikbaaaGreatDoor.Lx
namespace Go.Proofs.YtfnhjdehlikbaaaGreatDoor.Lx
open Go.RowKit Go.Proofs.YtfnhjdehlikbaaaGreatDoorW.PrintWords
theorem bdrew (w : World) (n : Nat) : Below w.heap.size w (w.drewN n) := ⟨rfl, rfl, rfl, Nat.le_refl _, fun _ _ => rfl⟩
section
variable {w : World} {l : List Tok} {A : Option Addr} {b : Nat} {t : Tok} {st : List Lev} {vs : Value} {out : List Tok} {vo : Value} {W : World}
theorem RefH.cap {S : Option Addr} {n c : Nat} (h : RefH w l A st (.slice S n c) out vo W) : st.length = n ∧ n ≤ c := by
  rcases h.stack.2 with ⟨h1, h2⟩ | ⟨g, cap, cur, h1, _, _, h2, _⟩
  · injection h1 with a b c
    omega
  · injection h1 with a b c
    omega
theorem RefH.olen {O : Option Addr} {n c : Nat} (h : RefH w l A st vs out (.slice O n c) W) : out.length = n := by
  rcases h.out.2 with ⟨h1, h2⟩ | ⟨g, cap, cur, h1, _, _, h2, _⟩
  · injection h1 with a b c
    omega
  · injection h1 with a b c
    omega
end
theorem small_of {l : List Tok} (h : GoodL l) : ∀ t ∈ l, SmallT t := by
  intro t ht
  obtain ⟨i, hi, rfl⟩ := List.getElem_of_mem ht
  have g := h i l[i] (List.getElem?_eq_getElem hi)
  exact ⟨g.a0, g.a1, g.l0, g.l1, g.c0, g.c1, g.sz⟩
def RefRes (w : World) (r : List Tok × Int × Int) (e : Ending) (w' : World) : Prop :=
  ∃ A c, e = .returned (.tuple #[.slice A r.1.length c, .int .i64 r.2.1, .int .i64 r.2.2]) ∧ SrcC A r.1 w' ∧ Below w.heap.size w w'
theorem layF_nil : layF [] = ([⟨5, 0, ⟨#[]⟩, 0, 0, 0⟩, ⟨7, 0, ⟨#[]⟩, 0, 0, 0⟩], 0, 0) := by rfl
section
variable {w : World} {l : List Tok} {A : Option Addr} {b : Nat} {t x : Tok} {v : Lev} {st : List Lev} {vs vs' : Value} {out : List Tok} {vo vo' : Value} {W W' : World} {O S : Option Addr} {n c : Nat}
theorem RefH.outn (h : RefH w l A st vs out (.slice O n c) W) : W.ownsRow w.heap.size 121 6 (.slice O n c) n (flat out) := by
  have := h.out
  rwa [h.olen] at this
theorem RefH.stackn (h : RefH w l A st (.slice S n c) out vo W) : W.ownsRow w.heap.size 159 3 (.slice S n c) n (flatL st) := by
  have := h.stack
  rwa [h.cap.1] at this
theorem RefH.putn (h : RefH w l A st vs out (.slice O n c) W) (hG : W.grownBy W' (Value.ownBlock (.slice O n c))) (hO : W'.ownsRow w.heap.size 121 6 vo' (n + 1) (flat out ++ x.cells.toList)) : RefH w l A st vs (out ++ [x]) vo' W' :=
  h.put hG (by rw [h.olen]; exact hO)
theorem RefA.putn (h : RefA w l A b t st vs out (.slice O n c) W) (hG : W.grownBy W' (Value.ownBlock (.slice O n c))) (hO : W'.ownsRow w.heap.size 121 6 vo' (n + 1) (flat out ++ x.cells.toList)) (hA : vo'.ownBlock = Value.ownBlock (.slice O n c) ∨ vo'.ownBlock = some W.heap.size) : RefA w l A b t st vs (out ++ [x]) vo' W' :=
  h.put hG (by rw [h.head.olen]; exact hO) hA
theorem RefA.pushn (h : RefA w l A b t st (.slice S n c) out vo W) (hG : W.grownBy W' (Value.ownBlock (.slice S n c))) (hO : W'.ownsRow w.heap.size 159 3 vs' (n + 1) (flatL st ++ v.cells.toList)) (hA : vs'.ownBlock = Value.ownBlock (.slice S n c) ∨ vs'.ownBlock = some W.heap.size) : RefA w l A b t (st ++ [v]) vs' out vo W' :=
  h.push hG (by rw [h.head.cap.1]; exact hO) hA
theorem RefA.lower (h : RefA w l A b t (st ++ [v]) (.slice S (n + 1) c) out vo W) : RefA w l A b t st (.slice S n c) out vo W := by
  have h2 := h.pop
  have : st.length = n := by
    have := h.head.cap.1
    simp at this
    exact this
  rwa [this] at h2
theorem RefH.lower (h : RefH w l A (st ++ [v]) (.slice S (n + 1) c) out vo W) : RefH w l A st (.slice S n c) out vo W := by
  have h2 := h.pop
  have : st.length = n := by
    have := h.cap.1
    simp at this
    exact this
  rwa [this] at h2
theorem RefH.topn (h : RefH w l A st (.slice S (n + 1) c) out vo W) : ∃ s0 u g, st = s0 ++ [u] ∧ S = some ⟨g, 0, none⟩ ∧ W.cell? ⟨g, n * 3, none⟩ = some (.bool u.block) ∧ W.cell? ⟨g, n * 3 + 1, none⟩ = some (.int .i64 u.col) ∧ W.cell? ⟨g, n * 3 + 2, none⟩ = some (.string u.text) := by
  have hl := h.cap.1
  rcases List.eq_nil_or_concat st with rfl | ⟨s0, u, rfl⟩
  · simp at hl
  · rw [List.concat_eq_append] at *
    obtain ⟨g, hg, h0, h1, h2⟩ := h.top
    have : s0.length = n := by simp at hl; exact hl
    rw [this] at h0 h1 h2
    exact ⟨s0, u, g, rfl, hg, h0, h1, h2⟩
theorem RefH.topc {g : Nat} (h : RefH w l A (st ++ [v]) (.slice (some ⟨g, 0, none⟩) (n + 1) c) out vo W) : W.cell? ⟨g, n * 3, none⟩ = some (.bool v.block) ∧ W.cell? ⟨g, n * 3 + 1, none⟩ = some (.int .i64 v.col) ∧ W.cell? ⟨g, n * 3 + 2, none⟩ = some (.string v.text) := by
  have hl := h.cap.1
  obtain ⟨g', hg, h0, h1, h2⟩ := h.top
  injection hg with hg
  injection hg with hg
  subst hg
  have : st.length = n := by simp at hl; exact hl
  rw [this] at h0 h1 h2
  exact ⟨h0, h1, h2⟩
theorem RefH.nil0 (h : RefH w l A st (.slice S 0 c) out vo W) : st = [] := List.eq_nil_of_length_eq_zero h.cap.1
end
theorem RefH.levn {w : World} {l : List Tok} {A : Option Addr} {st : List Lev} {S : Option Addr} {n c : Nat} {out : List Tok} {vo : Value} {W : World} (h : RefH w l A st (.slice S n c) out vo W) {m : Nat} (hm : m < n) : ∃ u g, st[m]? = some u ∧ S = some ⟨g, 0, none⟩ ∧ W.cell? ⟨g, m * 3, none⟩ = some (.bool u.block) ∧ W.cell? ⟨g, m * 3 + 1, none⟩ = some (.int .i64 u.col) ∧ W.cell? ⟨g, m * 3 + 2, none⟩ = some (.string u.text) := by
  obtain ⟨S', c', e, hl⟩ := h.lev
  injection e with e1 e2 e3
  subst e1
  have hlt : m < st.length := by rw [h.cap.1]; exact hm
  obtain ⟨g, hg, h0, h1, h2⟩ := hl m _ (List.getElem?_eq_getElem hlt)
  exact ⟨_, g, List.getElem?_eq_getElem hlt, hg, h0, h1, h2⟩
theorem finL_bad {l : List Tok} {R : (List Lev × List Tok) × Int × Int} (h : R.2.2 ≠ 0) : finL l R = ([], R.2.1, R.2.2) := if_neg h
theorem quiet_left {P : Program} {f : FuncId} {args : Array Value} {w : World} {n : Nat} {v : Value}
    (h : Calls P f args (w.drewN n) fun e w' => e = .returned v ∧ w.drewN n = w') : Calls P f args (w.drewN n) fun e w'' => e = .returned v ∧ ∃ m, w'' = w.drewN m :=
  h.mono fun _ _ ⟨he, hm⟩ => ⟨he, n, hm.symm⟩
theorem nxT_eq (l : List Tok) (i : Nat) : l[i + 1]?.getD (endT l) = nxT l i := by
  unfold nxT
  split
  · rename_i h
    rw [List.getElem?_eq_getElem h]
    rfl
  · rename_i h
    rw [List.getElem?_eq_none (by omega)]
    rfl
theorem lay_bad {l : List Tok} {G R0 : (List Lev × List Tok) × Int × Int} {X : (List Lev × List Tok) × Bool × Int} {r : List Tok × Int × Int} {i : Nat} {e : Int} (h : (if X.2.2 = 0 then G else (X.1, (i : Int), X.2.2)) = R0) (hX : X.2.2 = e) (he : e ≠ 0) (hr : finL l R0 = r) : r = ([], (i : Int), e) := by
  subst hX
  rw [if_neg he] at h
  subst h
  rw [← hr, finL_bad he]
theorem oneF2_ok {t nx : Tok} {more : Bool} {st : List Lev} {out : List Tok} (h : badB t st out = false) : oneF2 t nx more st out = oneFin (oneC t nx more (oneB t st out).1 (oneB t st out).2) := by
  rw [oneF2, if_neg (by rw [h]; decide)]
  rfl
theorem highest_at {w : World} {l : List Tok} {A : Option Addr} {st : List Lev} {S : Option Addr} {n c : Nat} {out : List Tok} {vo : Value} {W : World} (h : RefH w l A st (.slice S n c) out vo W) (hb : Base st) (hn : n ≤ 1000000) :
    Calls Tryz.prog 113 #[.slice S n c] W fun e w' => e = .returned (.int .i64 (lastF st).col) ∧ W = w' := by
  have hl := h.cap.1
  obtain ⟨S', c', e, hv⟩ := h.lev
  injection e with e1 e2 e3
  subst e1 e3
  have := highest_any st S c W (by omega) hv
  rw [hl, hb.high] at this
  exact this
end Go.Proofs.YtfnhjdehlikbaaaGreatDoor.Lx
namespace Go.Proofs.YtfnhjdehlikbaaaGreatDoor.Lx
open Go.RowKit Go.Proofs.YtfnhjdehlikbaaaGreatDoorW.PrintWords
theorem virt (l : List Tok) (A : Option Addr) (c : Nat) (W : World) (n : Nat) (hn : l.length = n) (hl : n ≤ 5000) (hs : ∀ t ∈ l, SmallT t) (hT : SrcC A l W) (k j : Int) (i : Nat) (hj : j = (i : Int)) (hi : i ≤ n) (u : Tok) (hu : l[i]?.getD (endT l) = u) :
    Calls Tryz.prog 109 #[.int .i64 k, .slice A n c, .int .i64 j] W fun e w' => e = .returned (.agg #[.int .i64 k, .int .i64 0, .string ⟨#[]⟩, .int .i64 u.at_, .int .i64 u.line, .int .i64 u.col]) ∧ Below W.heap.size W w' := by
  subst hn hj hu
  exact virtual_any k l A c i W hl hi hs hT
theorem srcC_two (W : World) (a b : Tok) : SrcC (some ⟨W.heap.size, 0, none⟩) [a, b] (W.alloc (.cells (a.cells ++ b.cells) 121)) := by
  intro i t hi
  refine ⟨_, rfl, ?_⟩
  match i, hi with
  | 0, hi =>
    injection hi with hi
    subst hi
    exact ⟨cell_of (heap_new W _) _, cell_of (heap_new W _) _, cell_of (heap_new W _) _, cell_of (heap_new W _) _, cell_of (heap_new W _) _, cell_of (heap_new W _) _⟩
  | 1, hi =>
    injection hi with hi
    subst hi
    exact ⟨cell_of (heap_new W _) _, cell_of (heap_new W _) _, cell_of (heap_new W _) _, cell_of (heap_new W _) _, cell_of (heap_new W _) _, cell_of (heap_new W _) _⟩
  | i + 2, hi => simp at hi
theorem refH_start {w : World} {l : List Tok} {A : Option Addr} {w2 : World} (hb : Below w.heap.size w w2) (hs : SrcC A l w) (F : Tok) (c : Int) :
    RefH w l A [⟨true, c, ⟨#[]⟩⟩] (.slice (some ⟨w2.heap.size + 1, 0, none⟩) 1 1) [markF 5 F] (.slice (some ⟨w2.heap.size, 0, none⟩) 1 1) ((w2.alloc (.cells #[.int .i64 5, .int .i64 0, .string ⟨#[]⟩, .int .i64 F.at_, .int .i64 F.line, .int .i64 F.col] 121)).alloc (.cells #[.bool true, .int .i64 c, .string ⟨#[]⟩] 159)) := by
  have h1 := own_new (w2.alloc (.cells #[.int .i64 5, .int .i64 0, .string ⟨#[]⟩, .int .i64 F.at_, .int .i64 F.line, .int .i64 F.col] 121)) w.heap.size 159 3 #[.bool true, .int .i64 c, .string ⟨#[]⟩] (by have := hb.size; simp; omega) rfl
  rw [show (w2.alloc (.cells #[.int .i64 5, .int .i64 0, .string ⟨#[]⟩, .int .i64 F.at_, .int .i64 F.line, .int .i64 F.col] 121)).heap.size = w2.heap.size + 1 by simp] at h1
  exact ⟨h1, (own_new w2 w.heap.size 121 6 #[.int .i64 5, .int .i64 0, .string ⟨#[]⟩, .int .i64 F.at_, .int .i64 F.line, .int .i64 F.col] hb.size rfl).alloc _, hs, (hb.alloc hb.size _).alloc (by have := hb.size; simp; omega) _⟩
set_option maxRecDepth 1000000 in
set_option maxHeartbeats 4000000 in
theorem refLay_nil (A : Option Addr) (c : Nat) (w : World) (HRI : Aside0 (Calls Tryz.prog 108 #[.slice A 0 c] w fun e w' => e = .returned (.tuple #[.int .i64 0, .int .i64 0]) ∧ Below w.heap.size w w')) :
    Calls Tryz.prog 74 #[.slice A 0 c] w (RefRes w (layF [])) := by
  rw [layF_nil]
  go_enter Tryz.func74, Tryz.ntmps74
  go_wp2_with (go_at_call 108; (with_reducible refine HRI.out.mono ?_); rintro e w1 ⟨rfl, hb⟩; have HB1 := Aside0.mk hb; clear hb)
  go_ret3
  exact ⟨_, _, rfl, srcC_two w1 ⟨5, 0, ⟨#[]⟩, 0, 0, 0⟩ ⟨7, 0, ⟨#[]⟩, 0, 0, 0⟩, HB1.out.alloc HB1.out.size _⟩
def findIf (t : Nat) : Code → Option Code
  | .cond (.tmp k) a b => if k = t then some (.cond (.tmp k) a b) else match findIf t a with
    | some c => some c
    | none => findIf t b
  | .seq a b => match findIf t a with
    | some c => some c
    | none => findIf t b
  | .loop c => findIf t c
  | .block _ c => findIf t c
  | .scope c => findIf t c
  | _ => none
noncomputable def codeIf (t : Nat) : Code := (Tryz.f74.body.bind (findIf t)).getD .skip
end Go.Proofs.YtfnhjdehlikbaaaGreatDoor.Lx
