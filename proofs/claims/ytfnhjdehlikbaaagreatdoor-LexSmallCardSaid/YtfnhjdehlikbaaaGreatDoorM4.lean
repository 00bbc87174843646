import Derived.Test.YtfnhjdehlikbaaaGreatDoorM3
import Derived.Test.YtfnhjdehlikbaaaGreatDoorS1
import Derived.Test.YtfnhjdehlikbaaaGreatDoorM2
import Derived.Test.YtfnhjdehlikbaaaGreatDoorM0
import Derived.Test.YtfnhjdehlikbaaaGreatDoorM1
import Derived.Shelf.Spec.SlicesGrow
import Derived.Shelf.Strings.OnBuilder
import Derived.Shelf.Strings.SplitCore
import Derived.Shelf.Strings.Search3
import Derived.Shelf.Strings.Count
import Derived.Lib.SplitLaws
set_option linter.unusedVariables false
set_option linter.unusedSimpArgs false
namespace Go.Proofs.YtfnhjdehlikbaaaGreatDoor.Lx
open Go.RowKit Go.Proofs.YtfnhjdehlikbaaaGreatDoorW.PrintWords
theorem flat_len (l : List Tok) : (flat l).length = l.length * 6 := by
  induction l with
  | nil => rfl
  | cons a l ih => simp [flat, Tok.cells] at ih ⊢; omega
theorem flat_get {l : List Tok} {k : Nat} {t : Tok} (h : l[k]? = some t) (j : Nat) (hj : j < 6) : (flat l)[k * 6 + j]? = t.cells.toList[j]? := by
  obtain ⟨hlt, hx⟩ := List.getElem?_eq_some_iff.1 h
  have hsp : l = l.take k ++ t :: l.drop (k + 1) := by rw [← hx, ← List.drop_eq_getElem_cons hlt, List.take_append_drop]
  have hfl : flat l = flat (l.take k) ++ (t.cells.toList ++ flat (l.drop (k + 1))) := by
    conv => lhs; rw [hsp]
    simp [flat]
  have hlk : (flat (l.take k)).length = k * 6 := by rw [flat_len, List.length_take, Nat.min_eq_left (by omega)]
  rw [hfl, List.getElem?_append_right (by omega), hlk, Nat.add_sub_cancel_left, List.getElem?_append_left (by simp [Tok.cells]; omega)]
theorem TokAt.flat {g : Nat} {l : List Tok} {W : World} (h : TokAt g l W) : ∀ j u, (flat l)[j]? = some u → W.cell? ((⟨g, 0, none⟩ : Addr).add j) = some u := by
  obtain ⟨cs, f, h1, h2⟩ := h
  intro j u hu
  have e : (⟨g, 0, none⟩ : Addr).add j = ⟨g, j, none⟩ := by unfold Addr.add; split <;> simp_all
  rw [e, cell_of h1]
  have hj : j < l.length * 6 := by
    have := (List.getElem?_eq_some_iff.1 hu).1
    rwa [flat_len] at this
  have hk : j / 6 < l.length := by omega
  have hg := flat_get (List.getElem?_eq_getElem hk) (j % 6) (by omega)
  have hd : j / 6 * 6 + j % 6 = j := by omega
  rw [hd, hu] at hg
  have := h2 (j / 6) l[j / 6] (List.getElem?_eq_getElem hk) (j % 6) u hg.symm
  rwa [hd] at this
theorem flat_one (l : List Tok) : ∀ u ∈ flat l, u.oneCell' = true := by
  intro u hu
  simp only [flat, List.mem_flatMap] at hu
  obtain ⟨t, _, ht⟩ := hu
  simp [Tok.cells] at ht
  rcases ht with rfl | rfl | rfl | rfl | rfl | rfl <;> rfl
theorem tokAt_of_own {W : World} {B : Nat} {g n c : Nat} {l : List Tok} (h : W.ownsRow B 54 6 (.slice (some ⟨g, 0, none⟩) n c) l.length (flat l)) : TokAt g l W := by
  rcases h.2 with ⟨h1, _⟩ | ⟨g', cap, cur, h1, _, hh, _, _, _, ht⟩
  · cases h1
  · injection h1 with h1 _ _
    injection h1 with h1
    injection h1 with h1
    subst h1
    refine ⟨cur, (0, 0), hh, fun i t hi j v hv => ?_⟩
    have hj : j < 6 := by
      have := (List.getElem?_eq_some_iff.1 hv).1
      simpa [Tok.cells] using this
    have := flat_get hi j hj
    rw [hv, ← ht] at this
    have hlt := (List.getElem?_eq_some_iff.1 this).1
    rw [List.getElem?_take_of_lt (by rw [List.length_take] at hlt; omega)] at this
    simpa using this
theorem grow_any (n : Nat) (w : World) (hn : n ≤ 10000) :
    Calls Tryz.prog 125 #[.slice none 0 0, .int .i64 ((n : Int) + 1)] w fun e w' => ∃ g c, e = .returned (.slice (some ⟨g, 0, none⟩) 0 c) ∧ w'.ownsRow w.heap.size 54 6 (.slice (some ⟨g, 0, none⟩) 0 c) 0 [] ∧ Below w.heap.size w w' := by
  obtain ⟨i0, hi, hz0, hz1, hz2⟩ := info_parts info54
  have h := Any8.slices_Grow_grow Tryz.laysGrow i0 _ hi hz0 (by omega) none 0 0 (n + 1) [] w (by omega) (by omega) (by rw [hz2]; omega) (by omega) (by simp) (fun _ => rfl) (fun _ h => by cases h)
  have e : (((n + 1 : Nat)) : Int) = (n : Int) + 1 := by omega
  rw [e] at h
  refine h.mono fun e w' ⟨he, hw⟩ => ⟨w.heap.size, _, he, ?_, ?_⟩
  · subst hw
    refine ⟨rfl, .inr ⟨w.heap.size, _, _, rfl, Nat.le_refl _, heap_new w.drew _, Nat.zero_le _, ?_, ?_, rfl⟩⟩
    · exact grownCap_le_maxLen w _ _ _ (by unfold maxLen; omega)
    · have hge := grownCap_ge w (0 + (n + 1)) 0 54
      rw [Array.size_append, Array.size_append, size_zeroCells, size_zeroCells]
      show 0 + (0 + (n + 1) - 0) * 6 + _ * 6 = _ * 6
      show 0 + (0 + (n + 1) - 0) * 6 + (grownCap w (0 + (n + 1)) 0 54 - (0 + (n + 1))) * 6 = grownCap w (0 + (n + 1)) 0 54 * 6
      omega
  · subst hw
    exact ((Below.refl _ w).drew).alloc (Nat.le_refl _) _
def CatRes (l : List Tok) (t : Tok) (w : World) (e : Ending) (w' : World) : Prop := ∃ g c, e = .returned (.slice (some ⟨g, 0, none⟩) (l.length + 1) c) ∧ TokAt g (l ++ [t]) w' ∧ Below w.heap.size w w'
structure CatAt (w : World) (k : Nat) (xs : List Value) (v : Value) (W : World) : Prop where
  own : W.ownsRow w.heap.size 54 6 v k xs
  below : Below w.heap.size w W
theorem CatAt.grown {w : World} {k k' : Nat} {xs xs' : List Value} {v v' : Value} {W W' : World} (h : CatAt w k xs v W) (hg : W.grownBy W' v.ownBlock) (ho : W'.ownsRow w.heap.size 54 6 v' k' xs') : CatAt w k' xs' v' W' :=
  ⟨ho, h.below.grown hg h.below.size (fun i hi => own_base h.own i hi)⟩
set_option maxRecDepth 100000 in
set_option maxHeartbeats 8000000 in
theorem concat_any (q : Nat) (A : Option Addr) (c : Nat) (l : List Tok) (b cb : Nat) (t : Tok) (w : World) (hl : l.length ≤ 5000)
    (hA : (A = none ∧ c = 0 ∧ l = []) ∨ ∃ g, A = some ⟨g, 0, none⟩ ∧ TokAt g l w) (hb : TokAt b [t] w)
    (c0 : w.cell? ⟨q, 0, none⟩ = some (.slice A l.length c)) (c1 : w.cell? ⟨q, 1, none⟩ = some (.slice (some ⟨b, 0, none⟩) 1 cb)) :
    Calls Tryz.prog 92 #[.slice (some ⟨q, 0, none⟩) 2 2] w (CatRes l t w) := by
  obtain ⟨i0, hi, hz0, hz1, hz2⟩ := info_parts info54
  have HI := Aside0.mk hi; clear hi
  have HZ0 := Aside0.mk hz0; clear hz0
  have HZ1 := Aside0.mk hz1; clear hz1
  have HZ2 := Aside0.mk hz2; clear hz2
  have HA := Aside0.mk hA; clear hA
  have HB := Aside0.mk hb; clear hb
  have HC0 := Aside0.mk c0
  have HC1 := Aside0.mk c1
  have hqb := World.block_lt_of_cell? _ _ c0
  simp only at hqb
  obtain ⟨n, hn⟩ : ∃ n, l.length = n := ⟨_, rfl⟩
  rw [hn] at c0 HC0 hl
  have HN := Aside0.mk hn; clear hn
  have hn0 : (0 : Int) ≤ (n : Int) := by omega
  have HGR : Aside0 (Calls Tryz.prog 125 #[.slice none 0 0, .int .i64 ((n : Int) + 1)] w fun e w' => ∃ g c, e = .returned (.slice (some ⟨g, 0, none⟩) 0 c) ∧ w'.ownsRow w.heap.size 54 6 (.slice (some ⟨g, 0, none⟩) 0 c) 0 [] ∧ Below w.heap.size w w') := ⟨grow_any n w (by omega)⟩
  go_enter Tryz.func92, Tryz.ntmps92
  go_wp2
  go_loop [11, 3] (fun t11 t3 => (t11 = .int .i64 0 ∧ t3 = .int .i64 0) ∨ (t11 = .int .i64 1 ∧ t3 = .int .i64 (n : Int)) ∨ (t11 = .int .i64 2 ∧ t3 = .int .i64 ((n : Int) + 1))) (fun t11 _ => 2 - (intOf t11).toNat)
  case atStart => exact .inl ⟨rfl, rfl⟩
  case round =>
    rcases hrel with ⟨rfl, rfl⟩ | ⟨rfl, rfl⟩ | ⟨rfl, rfl⟩
    · go_wp2
      go_round
      case rel => exact .inr (.inl ⟨rfl, rfl⟩)
      case measure => simp [intOf]
    · go_wp2
      go_round
      case rel => exact .inr (.inr ⟨rfl, rfl⟩)
      case measure => simp [intOf]
    · go_upto_region 10 with (go_at_call 125; (with_reducible refine HGR.out.mono ?_); rintro e w1 ⟨g, cg, rfl, hown, hbel⟩; have HO := Aside0.mk hown; have HBL := Aside0.mk hbel; have d0 := (hbel.cell (p := ⟨q, 0, none⟩) hqb).trans HC0.out; have d1 := (hbel.cell (p := ⟨q, 1, none⟩) hqb).trans HC1.out; clear hown hbel)
      clear c0 c1
      go_upto_region 11 with (fail)
      go_loopw [27, 6] (fun t27 t6 wr => (t27 = .int .i64 0 ∧ ∃ g cg, t6 = .slice (some ⟨g, 0, none⟩) 0 cg ∧ Aside0 (CatAt w 0 [] (.slice (some ⟨g, 0, none⟩) 0 cg) wr)) ∨ (t27 = .int .i64 1 ∧ ∃ g cg, t6 = .slice (some ⟨g, 0, none⟩) n cg ∧ Aside0 (CatAt w n (flat l) (.slice (some ⟨g, 0, none⟩) n cg) wr)) ∨ (t27 = .int .i64 2 ∧ ∃ g cg, t6 = .slice (some ⟨g, 0, none⟩) (n + 1) cg ∧ Aside0 (CatAt w (n + 1) (flat l ++ t.cells.toList) (.slice (some ⟨g, 0, none⟩) (n + 1) cg) wr))) (fun t27 _ _ => 2 - (intOf t27).toNat)
      case atStart => exact .inl ⟨rfl, g, cg, rfl, ⟨HO.out, HBL.out⟩⟩
      case round =>
        clear d0 d1 HO HBL HGR
        rcases hrel with ⟨rfl, g, cg, rfl, HX⟩ | ⟨rfl, g, cg, rfl, HX⟩ | ⟨rfl, g, cg, rfl, HX⟩
        · have d0 := (HX.out.below.cell (p := ⟨q, 0, none⟩) hqb).trans HC0.out
          rcases HA.out with ⟨rfl, rfl, rfl⟩ | ⟨g0, rfl, hT⟩
          · have hn := HN.out
            simp only [List.length_nil] at hn
            subst hn
            go_wp2_with (at_builtin; refine wpList_append_own_none rfl _ _ 34 rfl w.heap.size 54 i0 6 Tryz.underlying34 HI.out (.slice (some ⟨g, 0, none⟩) 0 cg) 0 [] rfl HX.out.own rfl ?_)
            go_roundw
            case rel => exact .inr (.inl ⟨rfl, g, cg, rfl, HX⟩)
            case measure => simp [intOf]
          · have HT := Aside0.mk (hT.below (HX.out.below.mono (Nat.le_refl _)))
            clear hT
            go_wp2_with (at_builtin; refine wpList_append_own_at _ rfl _ _ 34 rfl w.heap.size 54 i0 _ 6 56 Tryz.underlying34 HI.out HZ0.out HZ1.out HZ2.out rfl (by decide) (.slice (some ⟨g, 0, none⟩) 0 cg) 0 [] rfl HX.out.own ⟨g0, 0, none⟩ n c (flat l) rfl (by rw [flat_len, HN.out]) HT.out.flat (flat_one l) (by unfold maxLen; omega) (by omega) HX.out.below.size ?_; intro v' w3 hown' hgrow hnil hat; obtain ⟨g', cap', rfl⟩ : ∃ g' cap', v' = .slice (some ⟨g', 0, none⟩) (0 + n) cap' := (by rcases hown'.2 with ⟨h1, _⟩ | ⟨g', cap', cur, h1, _⟩; exact absurd (hnil.1 h1).1 (by simp); exact ⟨g', cap', h1⟩); have HX2 := Aside0.mk (HX.out.grown hgrow hown'); clear hown' hgrow hnil hat)
            go_roundw
            case rel => exact .inr (.inl ⟨rfl, g', cap', rfl, by have := HX2.out; rw [Nat.zero_add, List.nil_append] at this; exact ⟨this⟩⟩)
            case measure => simp [intOf]
        · have d1 := (HX.out.below.cell (p := ⟨q, 1, none⟩) hqb).trans HC1.out
          have HT := Aside0.mk (HB.out.below (HX.out.below.mono (Nat.le_refl _)))
          have hfo : flat [t] = t.cells.toList := by simp [flat]
          have HF := Aside0.mk hfo
          clear hfo
          go_wp2_with (at_builtin; refine wpList_append_own_at _ rfl _ _ 34 rfl w.heap.size 54 i0 _ 6 56 Tryz.underlying34 HI.out HZ0.out HZ1.out HZ2.out rfl (by decide) (.slice (some ⟨g, 0, none⟩) n cg) n (flat l) rfl HX.out.own ⟨b, 0, none⟩ 1 cb t.cells.toList rfl rfl (fun j u h => HT.out.flat j u (by rw [HF.out]; exact h)) (fun u h => flat_one [t] u (by rw [HF.out]; exact h)) (by unfold maxLen; omega) (by omega) HX.out.below.size ?_; intro v' w3 hown' hgrow hnil hat; obtain ⟨g', cap', rfl⟩ : ∃ g' cap', v' = .slice (some ⟨g', 0, none⟩) (n + 1) cap' := (by rcases hown'.2 with ⟨h1, _⟩ | ⟨g', cap', cur, h1, _⟩; exact absurd (hnil.1 h1).1 (by simp); exact ⟨g', cap', h1⟩); have HX2 := Aside0.mk (HX.out.grown hgrow hown'); clear hown' hgrow hnil hat)
          go_roundw
          case rel => exact .inr (.inr ⟨rfl, g', cap', rfl, HX2⟩)
          case measure => simp [intOf]
        · go_wp2
          go_ret
          refine ⟨g, cg, (congrArg (fun k => Ending.returned (Value.slice (some ⟨g, 0, none⟩) (k + 1) cg)) HN.out).symm, ?_, HX.out.below⟩
          refine tokAt_of_own (n := n + 1) (c := cg) (B := w.heap.size) ?_
          have h := HX.out.own
          rw [← flat_snoc] at h
          have e : (l ++ [t]).length = n + 1 := by rw [List.length_append, HN.out]; rfl
          rw [e]
          exact h
end Go.Proofs.YtfnhjdehlikbaaaGreatDoor.Lx
namespace Go.Proofs.YtfnhjdehlikbaaaGreatDoor.Lx
open Go.RowKit Go.Proofs.YtfnhjdehlikbaaaGreatDoorW.PrintWords
def SrcT (A : Option Addr) (c : Nat) (l : List Tok) (W : World) : Prop := (A = none ∧ c = 0 ∧ l = []) ∨ ∃ g, A = some ⟨g, 0, none⟩ ∧ TokAt g l W
theorem SrcT.below {A : Option Addr} {c : Nat} {l : List Tok} {W W' : World} (h : SrcT A c l W) (hb : Below W.heap.size W W') : SrcT A c l W' := by
  rcases h with h | ⟨g, hg, ht⟩
  · exact .inl h
  · exact .inr ⟨g, hg, ht.below hb⟩
theorem SrcT.cell {A : Option Addr} {c : Nat} {l : List Tok} {W : World} (h : SrcT A c l W) {i : Nat} {t : Tok} (ht : l[i]? = some t) : ∃ g, A = some ⟨g, 0, none⟩ ∧
    W.cell? ⟨g, i * 6, none⟩ = some (.int .i64 t.kind) ∧ W.cell? ⟨g, i * 6 + 1, none⟩ = some (.int .i64 t.num) ∧ W.cell? ⟨g, i * 6 + 2, none⟩ = some (.string t.text) ∧ W.cell? ⟨g, i * 6 + 3, none⟩ = some (.int .i64 t.at_) ∧ W.cell? ⟨g, i * 6 + 4, none⟩ = some (.int .i64 t.line) ∧ W.cell? ⟨g, i * 6 + 5, none⟩ = some (.int .i64 t.col) := by
  rcases h with ⟨_, _, rfl⟩ | ⟨g, hg, htk⟩
  · simp at ht
  · exact ⟨g, hg, htk.cell ht⟩
theorem listError_src (l : List Tok) (A : Option Addr) (c : Nat) (w : World) (ht : Pow w) (hl : l.length ≤ 4000) (hg : GoodL l) (hT : SrcT A c l w) :
    Calls Tryz.prog 67 #[.slice A l.length c] w fun e w' => e = .returned (.tuple #[.int .i64 0, .int .i64 0]) ∧ Below w.heap.size w w' := by
  rcases hT with ⟨rfl, rfl, rfl⟩ | ⟨g, rfl, hT⟩
  · exact listError_nil none 0 w
  · exact listError_ok l g c w ht hl hg hT
structure EndAt (w : World) (eb : Nat) (E : Tok) (W : World) : Prop where
  box : W.heap[eb]? = some (.cells E.cells 54)
  below : Below w.heap.size w W
  lo : w.heap.size ≤ eb
structure LayIt (w : World) (eb B y : Nat) (E : Tok) (st : List Lev) (out : List Tok) (own : Nat → Prop) (W : World) : Prop where
  lay : LaySt B y clo st out own W
  fin : EndAt w eb E W
  far : ¬ own eb
  lo : ∀ k, own k → w.heap.size ≤ k
structure RoundAt (w : World) (eb B y : Nat) (E : Tok) (st : List Lev) (out : List Tok) (own : Nat → Prop) (b : Nat) (t nx : Tok) (W : World) : Prop where
  it : LayIt w eb B y E st out own W
  bt : W.heap[b]? = some (.cells t.cells 54)
  bn : W.heap[b + 1]? = some (.cells nx.cells 54)
section
variable {w : World} {eb B y : Nat} {E : Tok} {st : List Lev} {out : List Tok} {own : Nat → Prop} {W W' : World}
theorem EndAt.step (h : EndAt w eb E W) (hb : Below W.heap.size W W') : EndAt w eb E W' := ⟨(hb.block _ (heap_lt h.box)).trans h.box, h.below.trans (hb.mono h.below.size), h.lo⟩
theorem LayIt.step (h : LayIt w eb B y E st out own W) (hb : Below W.heap.size W W') : LayIt w eb B y E st out own W' :=
  ⟨h.lay.keep (Keep.of_below (S := fun _ => False) hb) (fun _ h => h.elim), h.fin.step hb, h.far, h.lo⟩
theorem LayIt.to (h : LayIt w eb B y E st out own W) {st' : List Lev} {out' : List Tok} (ht : LayTo B y clo st' out' own W W') : ∃ own', LayIt w eb B y E st' out' own' W' := by
  obtain ⟨own', h1, h2, h3⟩ := ht
  have hz := h.fin.below.size
  have he := heap_lt h.fin.box
  refine ⟨own', h1, ⟨(h2.block _ he h.far).trans h.fin.box, h.fin.below.trans (h2.below hz (fun i hi ho => by have := h.lo i ho; omega)), h.fin.lo⟩, fun ho => ?_, fun k hk => ?_⟩
  · rcases h3 _ ho with h4 | h4
    · exact h.far h4
    · omega
  · rcases h3 k hk with h4 | h4
    · exact h.lo k h4
    · omega
theorem RoundAt.step {b : Nat} {t nx : Tok} (h : RoundAt w eb B y E st out own b t nx W) (hb : Below W.heap.size W W') : RoundAt w eb B y E st out own b t nx W' :=
  ⟨h.it.step hb, (hb.block _ (heap_lt h.bt)).trans h.bt, (hb.block _ (heap_lt h.bn)).trans h.bn⟩
theorem RoundAt.cells {b : Nat} {t nx : Tok} (h : RoundAt w eb B y E st out own b t nx W) :
    (W.cell? ⟨b, 0, none⟩ = some (.int .i64 t.kind) ∧ W.cell? ⟨b, 1, none⟩ = some (.int .i64 t.num) ∧ W.cell? ⟨b, 2, none⟩ = some (.string t.text) ∧ W.cell? ⟨b, 3, none⟩ = some (.int .i64 t.at_) ∧ W.cell? ⟨b, 4, none⟩ = some (.int .i64 t.line) ∧ W.cell? ⟨b, 5, none⟩ = some (.int .i64 t.col)) ∧
    (W.cell? ⟨b + 1, 0, none⟩ = some (.int .i64 nx.kind) ∧ W.cell? ⟨b + 1, 1, none⟩ = some (.int .i64 nx.num) ∧ W.cell? ⟨b + 1, 2, none⟩ = some (.string nx.text) ∧ W.cell? ⟨b + 1, 3, none⟩ = some (.int .i64 nx.at_) ∧ W.cell? ⟨b + 1, 4, none⟩ = some (.int .i64 nx.line) ∧ W.cell? ⟨b + 1, 5, none⟩ = some (.int .i64 nx.col)) :=
  ⟨⟨cell_of h.bt 0, cell_of h.bt 1, cell_of h.bt 2, cell_of h.bt 3, cell_of h.bt 4, cell_of h.bt 5⟩, ⟨cell_of h.bn 0, cell_of h.bn 1, cell_of h.bn 2, cell_of h.bn 3, cell_of h.bn 4, cell_of h.bn 5⟩⟩
theorem EndAt.cells (h : EndAt w eb E W) :
    W.cell? ⟨eb, 0, none⟩ = some (.int .i64 E.kind) ∧ W.cell? ⟨eb, 1, none⟩ = some (.int .i64 E.num) ∧ W.cell? ⟨eb, 2, none⟩ = some (.string E.text) ∧ W.cell? ⟨eb, 3, none⟩ = some (.int .i64 E.at_) ∧ W.cell? ⟨eb, 4, none⟩ = some (.int .i64 E.line) ∧ W.cell? ⟨eb, 5, none⟩ = some (.int .i64 E.col) :=
  ⟨cell_of h.box 0, cell_of h.box 1, cell_of h.box 2, cell_of h.box 3, cell_of h.box 4, cell_of h.box 5⟩
end
def nxT (l : List Tok) (i : Nat) : Tok := if i + 1 < l.length then l[i + 1]?.getD tokZ else endT l
def bgT (l : List Tok) (i : Nat) (op : Bool) (t : Tok) : Bool := !op && (i == 0 || decide (t.line > (l[i - 1]?.getD tokZ).line))
theorem layG_step {l : List Tok} {i : Nat} {t : Tok} (h : l[i]? = some t) (f : Nat) (op : Bool) (st : List Lev) (out : List Tok) :
    layG l (f + 1) i op st out = if (oneF t (nxT l i) (bgT l i op t) (decide (i + 1 < l.length)) st out).2.2 = 0 then layG l f (i + 1) (oneF t (nxT l i) (bgT l i op t) (decide (i + 1 < l.length)) st out).2.1 (oneF t (nxT l i) (bgT l i op t) (decide (i + 1 < l.length)) st out).1.1 (oneF t (nxT l i) (bgT l i op t) (decide (i + 1 < l.length)) st out).1.2 else ((oneF t (nxT l i) (bgT l i op t) (decide (i + 1 < l.length)) st out).1, (i : Int), (oneF t (nxT l i) (bgT l i op t) (decide (i + 1 < l.length)) st out).2.2) := by
  have hlt := (List.getElem?_eq_some_iff.1 h).1
  rw [layG, if_pos hlt]
  simp only [h, Option.getD_some]
  rfl
theorem layG_end {l : List Tok} {i : Nat} (h : ¬ i < l.length) (f : Nat) (op : Bool) (st : List Lev) (out : List Tok) : layG l (f + 1) i op st out = ((st, out), 0, 0) := by
  rw [layG, if_neg h]
def finL (l : List Tok) (R : (List Lev × List Tok) × Int × Int) : List Tok × Int × Int :=
  if R.2.2 = 0 then (if (shutF anyL (endT l) R.1.1 R.1.2).1.isEmpty = true then ((shutF anyL (endT l) R.1.1 R.1.2).2, 0, 0) else ([], (l.length : Int), 7)) else ([], R.2.1, R.2.2)
theorem layF_fin (l : List Tok) : layF l = finL l (layG l (l.length + 1) 0 true [⟨true, (l[0]?.getD (endT l)).col, ⟨#[]⟩⟩] [markF 5 (l[0]?.getD (endT l))]) := rfl
set_option maxRecDepth 100000 in
set_option maxHeartbeats 16000000 in
theorem lay_any (l : List Tok) (A : Option Addr) (c : Nat) (w : World) (ht : Pow w) (hl : l.length ≤ 4000) (hg : GoodL l) (hT : SrcT A c l w) :
    Calls Tryz.prog 56 #[.slice A l.length c] w (TokRes w.heap.size w (layF l)) := by
  have HLE := Aside0.mk (listError_src l A c w ht hl hg hT)
  have HSR := Aside0.mk hT
  have HG := Aside0.mk hg
  clear ht hg hT
  obtain ⟨n, hn⟩ : ∃ n, l.length = n := ⟨_, rfl⟩
  rw [hn] at HLE hl ⊢
  have HN := Aside0.mk hn
  clear hn
  obtain ⟨r, hr⟩ : ∃ r, layF l = r := ⟨_, rfl⟩
  rw [hr]
  have hgE : GoodL l := HG.out
  obtain ⟨E, hE⟩ : ∃ E, endT l = E := ⟨_, rfl⟩
  rw [layF_fin, hE, HN.out] at hr
  have HE := Aside0.mk hE
  have HR := Aside0.mk hr
  clear hr hE hgE
  go_enter Tryz.func56, Tryz.ntmps56
  go_upto_if 28 with (go_at_call 67; (with_reducible refine HLE.out.mono ?_); rintro e w1 ⟨rfl, hb⟩; have HB1 := Aside0.mk hb; clear hb)
  go_cut [] (fun wc => Aside0 (EndAt w w1.heap.size E wc))
  case first =>
    have hz1 := HB1.out.size
    by_cases h0 : n = 0
    · subst h0
      have hln : l = [] := List.eq_nil_of_length_eq_zero HN.out
      have HE0 : Aside0 (E = ⟨0, 0, ⟨#[]⟩, 0, 0, 0⟩) := ⟨by rw [← HE.out, hln]; rfl⟩
      clear hln
      go_wp2
      go_meet
      case rel => exact ⟨⟨by rw [HE0.out]; exact heap_new w1 _, HB1.out.alloc HB1.out.size _, HB1.out.size⟩⟩
    · have hlt : n - 1 < l.length := by rw [HN.out]; omega
      obtain ⟨g, hAg, q0, q1, q2, q3, q4, q5⟩ := (HSR.out.below (HB1.out.alloc HB1.out.size (.cells #[.int .i64 0, .int .i64 0, .string ⟨#[]⟩, .int .i64 0, .int .i64 0, .int .i64 0] 54))).cell (List.getElem?_eq_getElem hlt)
      have hlast : l.getLast? = some l[n - 1] := by
        rw [List.getLast?_eq_getElem?, show l.length - 1 = n - 1 by rw [HN.out]]
        exact List.getElem?_eq_getElem hlt
      have hgood := HG.out (n - 1) _ (List.getElem?_eq_getElem hlt)
      generalize l[n - 1] = t at q0 q1 q2 q3 q4 q5 hlast hgood
      obtain ⟨a1, a2, a3, a4, a5⟩ : 0 ≤ t.at_ ∧ t.at_ ≤ 65536 ∧ 0 ≤ t.col ∧ t.col ≤ 65536 ∧ t.text.size ≤ 65536 := ⟨hgood.a0, hgood.a1, hgood.c0, hgood.c1, hgood.sz⟩
      have HE0 : Aside0 (E = { t with at_ := t.at_ + t.text.size, col := t.col + t.text.size }) := ⟨by rw [← HE.out]; unfold endT; rw [hlast]⟩
      obtain ⟨tk, tn, tx, ta, tl, tc⟩ := t
      simp only at q0 q1 q2 q3 q4 q5 a1 a2 a3 a4 a5
      subst hAg
      obtain ⟨m, rfl⟩ : ∃ m, n = m + 1 := ⟨n - 1, by omega⟩
      simp only [Nat.add_sub_cancel] at q0 q1 q2 q3 q4 q5
      clear hlast hgood hlt h0
      have hm : ((m + 1 : Nat) : Int) - 1 = (m : Int) := by omega
      go_wp2
      go_meet
      case rel => exact ⟨⟨by rw [HE0.out]; exact heap_new w1 _, HB1.out.alloc HB1.out.size _, HB1.out.size⟩⟩
  case rest =>
    have HE0 := hcut
    clear hcut
    obtain ⟨R0, hR0⟩ : ∃ R0, layG l (n + 1) 0 true [⟨true, (l[0]?.getD E).col, ⟨#[]⟩⟩] [markF 5 (l[0]?.getD E)] = R0 := ⟨_, rfl⟩
    have hr2 := HR.out
    rw [hR0] at hr2
    have HR2 := Aside0.mk hr2
    have HR0 := Aside0.mk hR0
    clear hr2 hR0 HR HLE
    obtain ⟨e0, e1, e2, e3, e4, e5⟩ := (HE0.out.step ((Below.refl _ wc).alloc (Nat.le_refl _) (.cells #[.slice none 0 0, .slice none 0 0, .func (.func 90) #[] #[]] 134))).cells
    obtain ⟨F, hF⟩ : ∃ F, l[0]?.getD E = F := ⟨_, rfl⟩
    have hF0 : (l ++ [E])[0]? = some F := by
      rw [← hF]
      cases l <;> rfl
    rw [hF] at HR0
    clear hF
    obtain ⟨ek, en, ex, ea, el, ec⟩ := E
    simp only at e0 e1 e2 e3 e4 e5
    have hL0 : LaySt (wc.heap.size + 1) wc.heap.size clo [] [] (layOwn wc.heap.size (.slice none 0 0) (.slice none 0 0)) (wc.alloc (.cells #[.slice none 0 0, .slice none 0 0, .func (.func 90) #[] #[]] 134)) :=
      ⟨_, _, rfl, ⟨heap_new wc _, World.ownsRow_nil _ _ _ _, World.ownsRow_nil _ _ _ _, Nat.lt_succ_self _⟩⟩
    have HL0 := Aside0.mk hL0
    clear hL0
    have HK0 : Aside0 (Below wc.heap.size wc (((wc.alloc (.cells #[.slice none 0 0, .slice none 0 0, .func (.func 90) #[] #[]] 134)).alloc (.cells #[.int .i64 ek, .int .i64 en, .string ex, .int .i64 ea, .int .i64 el, .int .i64 ec] 54)).alloc (.cells #[.slice A n c, .slice (some ⟨wc.heap.size + 1, 0, none⟩) 1 1] 34))) := ⟨((((Below.refl _ wc).alloc (Nat.le_refl _) _).alloc (by simp) _).alloc (by simp; omega) _)⟩
    have hcat := concat_any (wc.heap.size + 1 + 1) A c l (wc.heap.size + 1) 1 ⟨ek, en, ex, ea, el, ec⟩ (((wc.alloc (.cells #[.slice none 0 0, .slice none 0 0, .func (.func 90) #[] #[]] 134)).alloc (.cells #[.int .i64 ek, .int .i64 en, .string ex, .int .i64 ea, .int .i64 el, .int .i64 ec] 54)).alloc (.cells #[.slice A n c, .slice (some ⟨wc.heap.size + 1, 0, none⟩) 1 1] 34)) (by rw [HN.out]; omega) (HSR.out.below (HE0.out.below.trans (HK0.out.mono HE0.out.below.size)))
      ⟨_, _, heap_alloc (heap_new' (wc.alloc _) _ _ (by simp)) _, fun i t hi j v hv => (by
        cases i with
        | zero => simp at hi; subst hi; simpa [Tok.cells] using hv
        | succ i => simp at hi)⟩
      (by rw [cell_of (heap_new' ((wc.alloc _).alloc _) _ _ (by simp))]; rw [HN.out]; rfl) (by rw [cell_of (heap_new' ((wc.alloc _).alloc _) _ _ (by simp))]; rfl)
    have HCAT := Aside0.mk hcat
    clear hcat
    go_upto_region 10 with (first | (go_at_call 92; (refine HCAT.out.mono ?_); rintro e w2 ⟨g2, c2, rfl, htk, hb⟩; have hbb := HK0.out.trans (hb.mono HK0.out.size); have HB2 := Aside0.mk hbb; obtain ⟨f0, f1, f2, f3, f4, f5⟩ := htk.cell hF0; have HL2 := Aside0.mk (HL0.out.keep (Keep.of_below (S := fun _ => False) ((((Below.refl _ _).alloc (Nat.le_refl _) (.cells #[.int .i64 ek, .int .i64 en, .string ex, .int .i64 ea, .int .i64 el, .int .i64 ec] 54)).alloc (by simp) (.cells #[.slice A n c, .slice (some ⟨wc.heap.size + 1, 0, none⟩) 1 1] 34)).trans (hb.mono (by simp)))) (fun _ h => h.elim)); clear htk hb hbb) | (go_at_call 91; refine (open_any _ _ clo [] [] _ w2 HL2.out F (by simp) (by simp) (by obtain ⟨_, _, _, hL⟩ := HL2.out; exact heap_lt hL.cell)).mono ?_; rintro e w3 ⟨rfl, hto⟩; have HTO := Aside0.mk hto; clear hto))
    have hlay3 : ∃ own3, LayIt w w1.heap.size (wc.heap.size + 1) wc.heap.size ⟨ek, en, ex, ea, el, ec⟩ [⟨true, F.col, ⟨#[]⟩⟩] [markF 5 F] own3 w3 := by
      have hfar : ∀ k, layOwn wc.heap.size (.slice none 0 0) (.slice none 0 0) k → k = wc.heap.size := by
        rintro k (h | h | h)
        · exact h
        · cases h
        · cases h
      have hz := heap_lt HE0.out.box
      have hi : LayIt w w1.heap.size (wc.heap.size + 1) wc.heap.size ⟨ek, en, ex, ea, el, ec⟩ [] [] (layOwn wc.heap.size (.slice none 0 0) (.slice none 0 0)) w2 :=
        ⟨HL2.out, HE0.out.step HB2.out, fun ho => by have := hfar _ ho; omega, fun k hk => by rw [hfar k hk]; exact HE0.out.below.size⟩
      exact hi.to HTO.out
    obtain ⟨own3, h3⟩ := hlay3
    have HI3 := Aside0.mk h3
    clear h3 HTO HL2 HB2 HCAT HK0 HL0 e0 e1 e2 e3 e4 e5 f0 f1 f2 f3 f4 f5 hF0
    have hn0 : (0 : Int) ≤ (n : Int) := by omega
    have hBB : wc.heap.size + 1 ≤ w3.heap.size := by
      have := HI3.out.lay.lt
      obtain ⟨vs, vo, _, hL⟩ := HI3.out.lay
      have := heap_lt hL.cell
      omega
    obtain ⟨B0, hB0⟩ : ∃ B0, wc.heap.size + 1 = B0 := ⟨_, rfl⟩
    rw [hB0] at HI3 hBB
    have HB0 := Aside0.mk hB0
    clear hB0
    have HB0L : Aside0 (w.heap.size ≤ B0) := ⟨by have := HE0.out.below.size; have := HB0.out; omega⟩
    generalize wc.heap.size = y0 at HI3 HB0 ⊢
    go_wp2
    go_loopg [64, 9] (n + 1) (fun f t64 t9 wr => ∃ (i : Nat) (op : Bool) (st' : List Lev) (out' : List Tok) (own' : Nat → Prop), t64 = .int .i64 (i : Int) ∧ t9 = .bool op ∧ i ≤ n ∧ i + f = n + 1 ∧ B0 ≤ wr.heap.size ∧ out'.length + st'.length ≤ 2 + 4 * i ∧ Aside0 (LayIt w w1.heap.size B0 y0 ⟨ek, en, ex, ea, el, ec⟩ st' out' own' wr ∧ layG l f i op st' out' = R0))
    case atStart => exact ⟨0, true, _, _, own3, rfl, rfl, by omega, by omega, hBB, by simp, ⟨HI3.out, HR0.out⟩⟩
    case round =>
      clear HI3 HR0 hBB HB0
      obtain ⟨i, op, st', out', own', rfl, rfl, hin, hif, hBr, hlen, hA⟩ := hrel
      by_cases hi : i < n
      · cases gk with
        | zero => omega
        | succ f =>
          have hlt : i < l.length := by rw [HN.out]; exact hi
          have hti := List.getElem?_eq_getElem hlt
          have hLG := hA.out.2
          rw [layG_step hti] at hLG
          have HIT := Aside0.mk hA.out.1
          clear hA
          have hgood := HG.out i _ hti
          obtain ⟨NX, hNX⟩ : ∃ NX, nxT l i = NX := ⟨_, rfl⟩
          obtain ⟨g, hAg, q0, q1, q2, q3, q4, q5⟩ := (HSR.out.below HIT.out.fin.below).cell hti
          generalize l[i] = t at hti hLG hgood q0 q1 q2 q3 q4 q5
          obtain ⟨BG, hBG⟩ : ∃ BG, bgT l i op t = BG := ⟨_, rfl⟩
          rw [hNX, hBG] at hLG
          have HNX := Aside0.mk hNX
          have HBG := Aside0.mk hBG
          have HTI := Aside0.mk hti
          subst hAg
          clear hti hlt hNX hBG hgood
          obtain ⟨tk, tn, tx, ta, tl, tc⟩ := t
          obtain ⟨nk, nn, nt, na, nl, nc⟩ := NX
          simp only at q0 q1 q2 q3 q4 q5
          obtain ⟨⟨⟨st5, out5⟩, op5, er5⟩, hone⟩ : ∃ R, oneF ⟨tk, tn, tx, ta, tl, tc⟩ ⟨nk, nn, nt, na, nl, nc⟩ BG (decide (i + 1 < l.length)) st' out' = R := ⟨_, rfl⟩
          rw [hone] at hLG
          simp only at hLG
          have hol := oneF_len ⟨tk, tn, tx, ta, tl, tc⟩ ⟨nk, nn, nt, na, nl, nc⟩ BG (decide (i + 1 < l.length)) st' out'
          rw [hone] at hol
          simp only at hol
          have HONE := Aside0.mk hone
          have HLG := Aside0.mk hLG
          clear hone hLG
          have hz := HIT.out.fin.below.size
          have heb := heap_lt HIT.out.fin.box
          obtain ⟨e0, e1, e2, e3, e4, e5⟩ := (HIT.out.step ((Below.refl _ wr).alloc (Nat.le_refl _) (.cells #[.int .i64 tk, .int .i64 tn, .string tx, .int .i64 ta, .int .i64 tl, .int .i64 tc] 54))).fin.cells
          simp only at e0 e1 e2 e3 e4 e5
          go_upto_if 74 with (fail)
          go_cut [] (fun wd => Aside0 (RoundAt w w1.heap.size B0 y0 ⟨ek, en, ex, ea, el, ec⟩ st' out' own' wr.heap.size ⟨tk, tn, tx, ta, tl, tc⟩ ⟨nk, nn, nt, na, nl, nc⟩ wd ∧ Below wr.heap.size wr wd))
          case first =>
            by_cases hi1 : i + 1 < n
            · have hti1 : l[i + 1]? = some ⟨nk, nn, nt, na, nl, nc⟩ := by
                have h := HNX.out
                unfold nxT at h
                rw [if_pos (by rw [HN.out]; exact hi1)] at h
                have hlt : i + 1 < l.length := by rw [HN.out]; exact hi1
                rw [List.getElem?_eq_getElem hlt] at h ⊢
                exact congrArg some h
              obtain ⟨g', hg', p0, p1, p2, p3, p4, p5⟩ := (HSR.out.below (HIT.out.fin.below.trans ((((Below.refl _ wr).alloc (Nat.le_refl _) (.cells #[.int .i64 tk, .int .i64 tn, .string tx, .int .i64 ta, .int .i64 tl, .int .i64 tc] 54)).alloc (by simp) (.cells #[.int .i64 ek, .int .i64 en, .string ex, .int .i64 ea, .int .i64 el, .int .i64 ec] 54)).mono hz))).cell hti1
              injection hg' with hg'
              injection hg' with hg'
              subst hg'
              simp only at p0 p1 p2 p3 p4 p5
              clear hti1
              have hi2 : (i : Int) + 1 < (n : Int) := by omega
              go_wp2
              go_meet
              case rel => exact ⟨⟨HIT.out.step (((Below.refl _ wr).alloc (Nat.le_refl _) _).alloc (by simp) _), heap_alloc (heap_new wr _) _, heap_new' (wr.alloc _) _ _ (by simp)⟩, ((Below.refl _ wr).alloc (Nat.le_refl _) _).alloc (by simp) _⟩
            · have hE2 : ⟨ek, en, ex, ea, el, ec⟩ = (⟨nk, nn, nt, na, nl, nc⟩ : Tok) := by
                have h := HNX.out
                unfold nxT at h
                rw [if_neg (by rw [HN.out]; exact hi1), HE.out] at h
                exact h
              injection hE2 with g1 g2 g3 g4 g5 g6
              subst g1 g2 g3 g4 g5 g6
              have hi2 : ¬ ((i : Int) + 1 < (n : Int)) := by omega
              go_wp2
              go_meet
              case rel => exact ⟨⟨HIT.out.step (((Below.refl _ wr).alloc (Nat.le_refl _) _).alloc (by simp) _), heap_alloc (heap_new wr _) _, heap_new' (wr.alloc _) _ _ (by simp)⟩, ((Below.refl _ wr).alloc (Nat.le_refl _) _).alloc (by simp) _⟩
          case rest =>
            obtain ⟨hra, hbel⟩ := hcut.out
            have HRA := Aside0.mk hra
            have HBW := Aside0.mk hbel
            clear hcut hra hbel q0 q1 q2 q3 q4 q5 e0 e1 e2 e3 e4 e5
            go_upto_region 17 with (fail)
            go_cut [14] (fun t14 we => t14 = .bool BG ∧ Aside0 (RoundAt w w1.heap.size B0 y0 ⟨ek, en, ex, ea, el, ec⟩ st' out' own' wr.heap.size ⟨tk, tn, tx, ta, tl, tc⟩ ⟨nk, nn, nt, na, nl, nc⟩ we ∧ Below wr.heap.size wr we))
            case first =>
              obtain ⟨⟨t0, t1, t2, t3, t4, t5⟩, _⟩ := HRA.out.cells
              simp only at t0 t1 t2 t3 t4 t5
              cases op with
              | true =>
                have HB : Aside0 (BG = false) := ⟨by rw [← HBG.out]; rfl⟩
                go_quiet (fail)
                go_wp2
                go_meet
                case rel => exact ⟨by rw [HB.out], ⟨HRA.out.step ⟨rfl, rfl, rfl, Nat.le_refl _, fun _ _ => rfl⟩, HBW.out.trans ⟨rfl, rfl, rfl, Nat.le_refl _, fun _ _ => rfl⟩⟩⟩
              | false =>
                by_cases hi0 : i = 0
                · subst hi0
                  have HB : Aside0 (BG = true) := ⟨by rw [← HBG.out]; rfl⟩
                  go_quiet (fail)
                  go_wp2
                  go_meet
                  case rel => exact ⟨by rw [HB.out], ⟨HRA.out.step ⟨rfl, rfl, rfl, Nat.le_refl _, fun _ _ => rfl⟩, HBW.out.trans ⟨rfl, rfl, rfl, Nat.le_refl _, fun _ _ => rfl⟩⟩⟩
                · obtain ⟨j, rfl⟩ : ∃ j, i = j + 1 := ⟨i - 1, by omega⟩
                  have hlt : j < l.length := by rw [HN.out]; omega
                  have htj := List.getElem?_eq_getElem hlt
                  have hbg : BG = decide (tl > (l[j]?.getD tokZ).line) := by
                    rw [← HBG.out]
                    unfold bgT
                    simp
                  rw [htj, Option.getD_some] at hbg
                  obtain ⟨g', hg', _, _, _, _, p4, _⟩ := (HSR.out.below HRA.out.it.fin.below).cell htj
                  injection hg' with hg'
                  injection hg' with hg'
                  subst hg'
                  generalize (l[j]).line = pl at hbg p4
                  have hne : (((j + 1 : Nat) : Int) == 0) = false := by simp; omega
                  have hne2 : ((j : Int) + 1 == 0) = false := by simp; omega
                  have hj0 : (0 : Int) ≤ (j : Int) := by omega
                  have hj1 : (j : Int) < (n : Int) := by omega
                  have hs1 : IntKind.i64.wrap (((j + 1 : Nat) : Int) - 1) = (j : Int) := by rw [IntWalk.i64_in _ (by omega)]; omega
                  have hs2 : IntKind.i64.wrap ((j : Int) + 1 - 1) = (j : Int) := by rw [IntWalk.i64_in _ (by omega)]; omega
                  clear htj hi0
                  by_cases hgt : tl > pl
                  · have HB : Aside0 (BG = true) := ⟨by rw [hbg]; exact decide_eq_true hgt⟩
                    clear hbg
                    go_quiet (fail)
                    go_wp2
                    go_meet
                    case rel => exact ⟨by rw [HB.out], ⟨HRA.out.step ⟨rfl, rfl, rfl, Nat.le_refl _, fun _ _ => rfl⟩, HBW.out.trans ⟨rfl, rfl, rfl, Nat.le_refl _, fun _ _ => rfl⟩⟩⟩
                  · have HB : Aside0 (BG = false) := ⟨by rw [hbg]; exact decide_eq_false hgt⟩
                    clear hbg
                    go_quiet (fail)
                    go_wp2
                    go_meet
                    case rel => exact ⟨by rw [HB.out], ⟨HRA.out.step ⟨rfl, rfl, rfl, Nat.le_refl _, fun _ _ => rfl⟩, HBW.out.trans ⟨rfl, rfl, rfl, Nat.le_refl _, fun _ _ => rfl⟩⟩⟩
            case rest =>
              obtain ⟨rfl, hra2⟩ := hcut
              have HRB := Aside0.mk hra2.out.1
              have HBX := Aside0.mk hra2.out.2
              clear hra2 HRA HBW
              obtain ⟨⟨t0, t1, t2, t3, t4, t5⟩, ⟨n0, n1, n2, n3, n4, n5⟩⟩ := HRB.out.cells
              simp only at t0 t1 t2 t3 t4 t5 n0 n1 n2 n3 n4 n5
              have hmore : decide (i + 1 < l.length) = decide ((i : Int) + 1 < (n : Int)) := by rw [HN.out]; exact decide_eq_decide.2 (by omega)
              have hoc := one_any B0 y0 ⟨tk, tn, tx, ta, tl, tc⟩ ⟨nk, nn, nt, na, nl, nc⟩ BG (decide (i + 1 < l.length)) st' out' own' _ HRB.out.it.lay (by omega) (Nat.le_trans hBr HBX.out.size)
              rw [HONE.out, hmore] at hoc
              have HOC := Aside0.mk hoc
              clear hoc hmore
              by_cases her : er5 = 0
              · subst her
                have hlg := HLG.out
                rw [if_pos rfl] at hlg
                have HLG2 := Aside0.mk hlg
                clear hlg HLG
                go_wp2_with (refine HOC.out.mono ?_; rintro e w5 ⟨rfl, st6, out6, heq, hto⟩; obtain ⟨rfl, rfl⟩ := heq rfl; have hbz := hto; obtain ⟨own6, h6⟩ := HRB.out.it.to hto; have H6 := Aside0.mk h6; have hk5 := (let ⟨_, _, h, _⟩ := hbz; h.size); clear heq hto hbz h6)
                go_roundg f
                case measure => omega
                case rel => exact ⟨i + 1, op5, _, _, own6, by go_num, rfl, by omega, by omega, Nat.le_trans (Nat.le_trans hBr HBX.out.size) hk5, by omega, ⟨H6.out, HLG2.out⟩⟩
              · have hlg := HLG.out
                rw [if_neg her] at hlg
                have hrr := HR2.out
                rw [← hlg] at hrr
                unfold finL at hrr
                simp only at hrr
                rw [if_neg her] at hrr
                have HRR := Aside0.mk hrr
                have her1 : (er5 == 0) = false := beq_eq_false_iff_ne.2 her
                clear hlg hrr HR2 HLG
                go_wp2_with (refine HOC.out.mono ?_; rintro e w5 ⟨rfl, st6, out6, heq, hto⟩; obtain ⟨own6, h6⟩ := HRB.out.it.to hto; have H6 := Aside0.mk h6; clear heq hto h6)
                go_ret3
                rw [← HRR.out]
                exact ⟨_, rfl, Kd.R_nil _ _ _ _ _, H6.out.fin.below⟩
      · obtain rfl : i = n := by omega
        obtain rfl : gk = 1 := by omega
        have hlg := hA.out.2
        have HIT := Aside0.mk hA.out.1
        clear hA
        rw [layG_end (f := 0) (by rw [HN.out]; omega)] at hlg
        subst hlg
        have hrr := HR2.out
        unfold finL at hrr
        simp only [if_true, HE.out] at hrr
        obtain ⟨S, hS⟩ : ∃ S, shutF anyL ⟨ek, en, ex, ea, el, ec⟩ st' out' = S := ⟨_, rfl⟩
        have hsl := shutF_len anyL ⟨ek, en, ex, ea, el, ec⟩ st' out'
        have hsh := shut_any B0 y0 clo anyL ⟨ek, en, ex, ea, el, ec⟩ 95 #[] (enters_of Tryz.func95 (by kernel_rfl) rfl) (fun _ _ => True) (fun _ _ _ _ _ _ _ => trivial) (fun _ W v _ => anything_any v W) st' out' own' wr HIT.out.lay trivial (by omega) hBr
        rw [hS] at hrr hsl hsh
        obtain ⟨s2, o2⟩ := S
        simp only [Tok.cells] at hrr hsl hsh
        have HRR := Aside0.mk hrr
        have HSH := Aside0.mk hsh
        clear hrr hsh hS HR2
        obtain ⟨e0, e1, e2, e3, e4, e5⟩ := HIT.out.fin.cells
        simp only at e0 e1 e2 e3 e4 e5
        go_upto_region 24 with (go_at_call 94; (with_reducible refine HSH.out.mono ?_); rintro e w5 ⟨rfl, hto⟩; obtain ⟨own6, h6⟩ := HIT.out.to hto; have H6 := Aside0.mk h6; clear hto h6)
        clear e0 e1 e2 e3 e4 e5
        obtain ⟨vs, vo, hown, hL⟩ := H6.out.lay
        obtain ⟨Av, cv, nv, hvs, hnv⟩ : ∃ Av cv nv, vs = .slice Av nv cv ∧ nv = s2.length := by
          rcases hL.stack.2 with ⟨h1, h2⟩ | ⟨g, cap, cur, h1, _⟩
          · exact ⟨none, 0, 0, h1, h2.symm⟩
          · exact ⟨_, _, _, h1, rfl⟩
        obtain ⟨Ao, co, no, hvo, hno⟩ : ∃ Ao co no, vo = .slice Ao no co ∧ no = o2.length := by
          rcases hL.out.2 with ⟨h1, h2⟩ | ⟨g, cap, cur, h1, _⟩
          · exact ⟨none, 0, 0, h1, h2.symm⟩
          · exact ⟨_, _, _, h1, rfl⟩
        subst hvs hvo
        have v0 : w5.cell? ⟨y0, 0, none⟩ = some (.slice Av nv cv) := cell_of hL.cell 0
        have v1 : w5.cell? ⟨y0, 1, none⟩ = some (.slice Ao no co) := cell_of hL.cell 1
        have HLL := Aside0.mk hL
        have HNO := Aside0.mk hno
        clear hL hown hno
        by_cases hz : nv = 0
        · have hie : s2.isEmpty = true := List.isEmpty_iff.2 (List.length_eq_zero_iff.1 (hnv.symm.trans hz))
          have hr3 := HRR.out
          rw [if_pos hie] at hr3
          have HR3 := Aside0.mk hr3
          subst hz
          clear hnv hie hr3 HRR
          go_wp2
          go_ret3
          rw [← HR3.out]
          refine ⟨_, rfl, ⟨fun _ _ => trivial, flat o2, own_weaken HLL.out.out ?_, reps_flat _ _ _ _⟩, H6.out.fin.below⟩
          have := H6.out.fin.below.size
          have := HB0L.out
          omega
        · have hie : ¬ s2.isEmpty = true := fun h => by
            rw [List.isEmpty_iff] at h
            rw [h] at hnv
            exact hz hnv
          have hr3 := HRR.out
          rw [if_neg hie] at hr3
          have HR3 := Aside0.mk hr3
          have hz0 : 0 < (nv : Int) := by omega
          clear hnv hie hr3 HRR hz
          go_wp2
          go_ret3
          rw [← HR3.out, HN.out]
          exact ⟨_, rfl, Kd.R_nil _ _ _ _ _, H6.out.fin.below⟩
end Go.Proofs.YtfnhjdehlikbaaaGreatDoor.Lx
namespace Go.Proofs.YtfnhjdehlikbaaaGreatDoor.Lx
open Go.RowKit Go.Proofs.YtfnhjdehlikbaaaGreatDoorW.PrintWords
def tokF (s : ByteArray) : List Tok × Int × Int :=
  if (rawF s).2.2 ≠ 0 then ([], (rawF s).2.1, (rawF s).2.2)
  else if (layF (rawF s).1).2.2 = 0 then ((layF (rawF s).1).1, 0, 0)
  else if (layF (rawF s).1).2.1 = ((rawF s).1.length : Int) then ([], (s.size : Int), (layF (rawF s).1).2.2)
  else ([], ((rawF s).1[(layF (rawF s).1).2.1.toNat]?.getD tokZ).at_, (layF (rawF s).1).2.2)
theorem srcT_of_R {W : World} {B : Nat} {v : Value} {l : List Tok} (h : Kd.R kTok 54 W B (fun _ => True) v l) : ∃ A c, v = .slice A l.length c ∧ SrcT A c l W := by
  obtain ⟨_, inner, ho, hr⟩ := h
  rcases ho.2 with ⟨h1, h2⟩ | ⟨g, cap, cur, h1, _, hh, _, _, _, ht⟩
  · have hl : l = [] := List.eq_nil_of_length_eq_zero h2
    exact ⟨none, 0, by rw [h1, hl]; rfl, .inl ⟨rfl, rfl, hl⟩⟩
  · refine ⟨some ⟨g, 0, none⟩, cap, h1, .inr ⟨g, rfl, cur, (0, 0), hh, fun i t hi j u hu => ?_⟩⟩
    have hj : j < 6 := by
      have := (List.getElem?_eq_some_iff.1 hu).1
      simpa [Tok.cells] using this
    have hk := hr.2 i t hi
    have hc : (inner.drop (i * 6)).take 6 = t.cells.toList := by
      obtain ⟨a1, b1, e1, rfl, a2, b2, e2, rfl, a3, b3, e3, rfl, a4, b4, e4, rfl, a5, b5, e5, rfl, rfl⟩ := hk
      have e0 : (inner.drop (i * 6)).take 6 = _ := e1
      rw [e0, e2, e3, e4, e5]
      rfl
    have : inner[i * 6 + j]? = some u := by
      rw [← hc, List.getElem?_take_of_lt hj, List.getElem?_drop] at hu
      exact hu
    rw [← ht] at this
    have hlt := (List.getElem?_eq_some_iff.1 this).1
    rw [List.getElem?_take_of_lt (by rw [List.length_take] at hlt; omega)] at this
    simpa using this
def RawOk (s : ByteArray) : Prop := GoodL (rawF s).1 ∧ (rawF s).1.length ≤ 4000
theorem layG_idx (l : List Tok) : ∀ (f i : Nat) (op : Bool) (st : List Lev) (out : List Tok), i ≤ l.length → (layG l f i op st out).2.2 ≠ 0 → 0 ≤ (layG l f i op st out).2.1 ∧ (layG l f i op st out).2.1 < l.length := by
  intro f
  induction f with
  | zero => intro i op st out _ h; simp [layG] at h
  | succ f ih =>
    intro i op st out hi h
    by_cases hlt : i < l.length
    · rw [layG_step (List.getElem?_eq_getElem hlt)] at h ⊢
      split
      · rename_i h0
        rw [if_pos h0] at h
        exact ih _ _ _ _ (by omega) h
      · simp only
        omega
    · rw [layG_end hlt] at h
      simp at h
theorem layF_idx (l : List Tok) (h : (layF l).2.2 ≠ 0) (hn : (layF l).2.1 ≠ (l.length : Int)) : 0 ≤ (layF l).2.1 ∧ (layF l).2.1 < l.length := by
  rw [layF_fin] at h hn ⊢
  unfold finL at h hn ⊢
  split
  · rename_i h0
    rw [if_pos h0] at h hn
    split
    · rename_i h1
      rw [if_pos h1] at h
      simp at h
    · rename_i h1
      rw [if_neg h1] at hn
      simp at hn
  · rename_i h0
    simp only
    exact layG_idx l _ 0 _ _ _ (Nat.zero_le _) h0
set_option maxRecDepth 100000 in
set_option maxHeartbeats 8000000 in
theorem tokens_any (s : ByteArray) (w : World) (hs : s.size ≤ 140737488351000) (ht : Pow w) (hok : RawOk s) : Calls Tryz.prog 19 #[.string s] w (TokRes w.heap.size w (tokF s)) := by
  obtain ⟨r, hr⟩ : ∃ r, tokF s = r := ⟨_, rfl⟩
  rw [hr]
  unfold tokF at hr
  obtain ⟨hgood, hlen⟩ := hok
  have HRAW := Aside0.mk (rawF_any s w (by omega))
  have HPOW := Aside0.mk ht
  clear ht
  obtain ⟨P, hP⟩ : ∃ P, rawF s = P := ⟨_, rfl⟩
  rw [hP] at hr hgood hlen HRAW
  have HP := Aside0.mk hP
  clear hP
  obtain ⟨l, at1, e1⟩ := P
  simp only at hr hgood hlen HRAW
  by_cases h1 : e1 = 0
  · subst h1
    rw [if_neg (by simp)] at hr
    obtain ⟨R, hR⟩ : ∃ R, layF l = R := ⟨_, rfl⟩
    have hidx := layF_idx l
    have hLAY : ∀ A c W, Pow W → SrcT A c l W → Calls Tryz.prog 56 #[.slice A l.length c] W (TokRes W.heap.size W R) := fun A c W hw hs => hR ▸ lay_any l A c W hw hlen hgood hs
    rw [hR] at hr hidx
    obtain ⟨out, i, e2⟩ := R
    simp only at hr hidx
    have HLAY := Aside0.mk hLAY
    clear hLAY hR hgood
    by_cases h2 : e2 = 0
    · subst h2
      rw [if_pos rfl] at hr
      have HR := Aside0.mk hr
      clear hr hidx
      go_enter Tryz.func19, Tryz.ntmps19
      go_wp2_with (first | (go_at_call 22; (with_reducible refine HRAW.out.mono ?_); rintro e w1 ⟨v1, rfl, hr1, hb1⟩; obtain ⟨A1, c1, rfl, hsr⟩ := srcT_of_R hr1; have HS := Aside0.mk hsr; have HB1 := Aside0.mk hb1; clear hr1 hsr hb1) | (go_at_call 56; refine (HLAY.out _ _ _ (HPOW.out.on HB1.out) HS.out).mono ?_; rintro e w2 ⟨v2, rfl, hr2, hb2⟩; obtain ⟨A2, c2, rfl, _⟩ := srcT_of_R hr2; have HR2 := Aside0.mk hr2; have HB2 := Aside0.mk (HB1.out.trans (hb2.mono HB1.out.size)); have HS2 := Aside0.mk (HS.out.below hb2); clear hr2 hb2))
      go_ret3
      rw [← HR.out]
      exact ⟨_, rfl, Kd.R_lower HR2.out HB1.out.size, HB2.out⟩
    · rw [if_neg h2] at hr
      have h2b : (e2 == 0) = false := beq_eq_false_iff_ne.2 h2
      by_cases h3 : i = (l.length : Int)
      · rw [if_pos h3] at hr
        have HR := Aside0.mk hr
        have h3b : (i == (l.length : Int)) = true := beq_iff_eq.2 h3
        subst h3
        clear hr hidx h3b
        go_enter Tryz.func19, Tryz.ntmps19
        go_wp2_with (first | (go_at_call 22; (with_reducible refine HRAW.out.mono ?_); rintro e w1 ⟨v1, rfl, hr1, hb1⟩; obtain ⟨A1, c1, rfl, hsr⟩ := srcT_of_R hr1; have HS := Aside0.mk hsr; have HB1 := Aside0.mk hb1; clear hr1 hsr hb1) | (go_at_call 56; refine (HLAY.out _ _ _ (HPOW.out.on HB1.out) HS.out).mono ?_; rintro e w2 ⟨v2, rfl, hr2, hb2⟩; obtain ⟨A2, c2, rfl, _⟩ := srcT_of_R hr2; have HR2 := Aside0.mk hr2; have HB2 := Aside0.mk (HB1.out.trans (hb2.mono HB1.out.size)); have HS2 := Aside0.mk (HS.out.below hb2); clear hr2 hb2))
        go_ret3
        rw [← HR.out]
        exact ⟨_, rfl, Kd.R_nil _ _ _ _ _, HB2.out⟩
      · rw [if_neg h3] at hr
        obtain ⟨i0, i1⟩ := hidx h2 h3
        obtain ⟨k, rfl⟩ : ∃ k : Nat, i = (k : Int) := ⟨i.toNat, by omega⟩
        have hk : k < l.length := by omega
        have htk := List.getElem?_eq_getElem hk
        rw [Int.toNat_natCast, htk, Option.getD_some] at hr
        have HTK := Aside0.mk htk
        generalize l[k] = t at hr HTK
        have HR := Aside0.mk hr
        have h3b : ((k : Int) == (l.length : Int)) = false := beq_eq_false_iff_ne.2 h3
        clear hr hidx htk
        have hk2 : (k : Int) < (l.length : Int) := by omega
        obtain ⟨tk, tn, tx, ta, tl, tc⟩ := t
        go_enter Tryz.func19, Tryz.ntmps19
        go_wp2_with (first | (go_at_call 22; (with_reducible refine HRAW.out.mono ?_); rintro e w1 ⟨v1, rfl, hr1, hb1⟩; obtain ⟨A1, c1, rfl, hsr⟩ := srcT_of_R hr1; have HS := Aside0.mk hsr; have HB1 := Aside0.mk hb1; clear hr1 hsr hb1) | (go_at_call 56; refine (HLAY.out _ _ _ (HPOW.out.on HB1.out) HS.out).mono ?_; rintro e w2 ⟨v2, rfl, hr2, hb2⟩; obtain ⟨A2, c2, rfl, _⟩ := srcT_of_R hr2; have HR2 := Aside0.mk hr2; have HB2 := Aside0.mk (HB1.out.trans (hb2.mono HB1.out.size)); have HS2 := Aside0.mk (HS.out.below hb2); clear hr2 hb2))
        obtain ⟨g, hAg, _, _, _, q3, _, _⟩ := HS2.out.cell HTK.out
        subst hAg
        simp only at q3
        go_quiet (fail)
        go_wp2
        go_ret3
        rw [← HR.out]
        exact ⟨_, rfl, Kd.R_nil _ _ _ _ _, HB2.out.trans ⟨rfl, rfl, rfl, Nat.le_refl _, fun _ _ => rfl⟩⟩
  · rw [if_pos h1] at hr
    have HR := Aside0.mk hr
    have h1b : (e1 == 0) = false := beq_eq_false_iff_ne.2 h1
    clear hr hgood
    go_enter Tryz.func19, Tryz.ntmps19
    go_wp2_with (go_at_call 22; (with_reducible refine HRAW.out.mono ?_); rintro e w1 ⟨v1, rfl, hr1, hb1⟩; have HB1 := Aside0.mk hb1; clear hr1 hb1)
    go_ret3
    rw [← HR.out]
    exact ⟨_, rfl, Kd.R_nil _ _ _ _ _, HB1.out⟩
end Go.Proofs.YtfnhjdehlikbaaaGreatDoor.Lx
namespace Go.Proofs.YtfnhjdehlikbaaaGreatDoor.Lx
open Go.RowKit Go.Proofs.YtfnhjdehlikbaaaGreatDoorW.PrintWords
def placeF (s : ByteArray) (a : Int) : Int × Int × Int :=
  if (65536 : Int) < s.size then (0, 0, 11) else if a < 0 ∨ (s.size : Int) < a then (0, 0, 3) else ((posOf s a).1, (posOf s a).2, 0)
set_option maxRecDepth 100000 in
set_option maxHeartbeats 8000000 in
theorem place_any (s : ByteArray) (a : Int) (w : World) : Calls Tryz.prog 33 #[.string s, .int .i64 a] w fun e w' => e = .returned (.tuple #[.int .i64 (placeF s a).1, .int .i64 (placeF s a).2.1, .int .i64 (placeF s a).2.2]) ∧ Below w.heap.size w w' := by
  obtain ⟨r, hr⟩ : ∃ r, placeF s a = r := ⟨_, rfl⟩
  rw [hr]
  unfold placeF at hr
  by_cases h1 : (65536 : Int) < s.size
  · rw [if_pos h1] at hr
    subst hr
    go_enter Tryz.func33, Tryz.ntmps33
    go_wp2
    go_ret3
    exact ⟨rfl, Below.refl _ _⟩
  · rw [if_neg h1] at hr
    by_cases h2 : a < 0
    · rw [if_pos (.inl h2)] at hr
      subst hr
      go_enter Tryz.func33, Tryz.ntmps33
      go_wp2
      go_ret3
      exact ⟨rfl, Below.refl _ _⟩
    · by_cases h3 : (s.size : Int) < a
      · rw [if_pos (.inr h3)] at hr
        subst hr
        go_enter Tryz.func33, Tryz.ntmps33
        go_wp2
        go_ret3
        exact ⟨rfl, Below.refl _ _⟩
      · rw [if_neg (by omega)] at hr
        obtain ⟨n, rfl⟩ : ∃ n : Nat, a = (n : Int) := ⟨a.toNat, by omega⟩
        have hp := pass_at w.heap.size 0 n s (w.alloc (.cells #[.int .i64 0, .int .i64 0, .int .i64 0, .string s] 112)) (by omega) (by omega) (by omega) (heap_new w _)
        rw [Int.zero_add] at hp
        obtain ⟨⟨pl, pc⟩, hP⟩ : ∃ P, posOf s (n : Int) = P := ⟨_, rfl⟩
        unfold SrcAt Src at hp
        rw [hP] at hr hp
        simp only at hr hp
        subst hr
        have HP := Aside0.mk hp
        clear hp hP
        go_enter Tryz.func33, Tryz.ntmps33
        go_wp2_with (go_at_call 65; (with_reducible refine HP.out.mono ?_); rintro e w1 ⟨rfl, hk, hb⟩; have HB := Aside0.mk ((((Below.refl _ w).alloc (Nat.le_refl _) (.cells #[.int .i64 0, .int .i64 0, .int .i64 0, .string s] 112))).trans (hk.below (by simp) (fun i hi h => by omega))); have c1 : w1.cell? ⟨w.heap.size, 1, none⟩ = some (.int .i64 pl) := cell_of hb 1; have c2 : w1.cell? ⟨w.heap.size, 2, none⟩ = some (.int .i64 pc) := cell_of hb 2; clear hk hb)
        go_quiet (fail)
        go_wp2
        go_ret3
        exact ⟨rfl, HB.out.trans ⟨rfl, rfl, rfl, Nat.le_refl _, fun _ _ => rfl⟩⟩
end Go.Proofs.YtfnhjdehlikbaaaGreatDoor.Lx
namespace Go.Proofs
theorem Tryz.joinExtra : Builder.Extra Tryz.prog Tryz.laysJoin_ren :=
  { sizeBuilder := by kernel_rfl, liesBuilder := by kernel_rfl, t5 := Tryz.laysSplit.t5, a5 := Tryz.laysSplit.a5, z5 := Tryz.laysSplit.z5, v5 := Tryz.laysSplit.v5, infoByte := by kernel_rfl, cellsByte := by kernel_rfl, sizeByte := by kernel_rfl, neB5 := by decide }
end Go.Proofs
namespace Go.Proofs.YtfnhjdehlikbaaaGreatDoor.Lx
open Go.RowKit Go.Proofs.YtfnhjdehlikbaaaGreatDoorW.PrintWords
theorem info9 : (Tryz.prog.info? 9).map (fun i => (i.zero, i.size, i.bytes)) = some (some (.string ⟨#[]⟩), 1, 16) := by kernel_rfl
def pieceT (t : Tok) : ByteArray := if t.kind = 5 then ⟨#[60]⟩ else if t.kind = 6 then ⟨#[59]⟩ else if t.kind = 7 then ⟨#[62]⟩ else t.text
def textsL (l : List Tok) : List UInt8 := Lib.join ((l.map pieceT).map (·.data.toList)) [32]
theorem join_at (xs : List ByteArray) (bk c : Nat) (w : World) (hcells : ∀ (j : Nat) x, xs[j]? = some x → w.cell? ⟨bk, j, none⟩ = some (.string x))
    (hbk : bk < w.heap.size) (hN : xs.length ≤ 140737488355328) (hcap : xs.length ≤ c) (hlen : (Lib.join (xs.map (·.data.toList)) [32]).length ≤ 140737488355328) :
    Calls Tryz.prog 18 #[.slice (some ⟨bk, 0, none⟩) xs.length c, .string ⟨#[32]⟩] w fun e w' => e = .returned (.string ⟨(Lib.join (xs.map (·.data.toList)) [32]).toArray⟩) ∧ Below w.heap.size w w' :=
  Any.strings_Join Tryz.laysJoin Tryz.joinExtra bk 0 c xs ⟨#[32]⟩ w (fun j x h => by rw [Nat.zero_add]; exact hcells j x h) hbk hN hcap hlen
structure TxtAt (w : World) (xs : List ByteArray) (v : Value) (W : World) : Prop where
  own : W.ownsRow w.heap.size 9 1 v xs.length (xs.map Value.string)
  below : Below w.heap.size w W
theorem txt_more {W : World} {B i : Nat} {v : Value} {xs : List ByteArray} {x : ByteArray} (hl : xs.length = i) (h : W.ownsRow B 9 1 v (i + 1) (xs.map Value.string ++ [.string x])) : W.ownsRow B 9 1 v (xs ++ [x]).length ((xs ++ [x]).map Value.string) := by
  rw [List.length_append, hl, List.map_append]
  exact h
set_option maxRecDepth 100000 in
set_option maxHeartbeats 8000000 in
theorem texts_any (l : List Tok) (A : Option Addr) (c : Nat) (w : World) (hne : l ≠ []) (hl : l.length ≤ 100000) (hT : SrcT A c l w) (hlen : (textsL l).length ≤ 140737488355328) :
    Calls Tryz.prog 20 #[.slice A l.length c] w fun e w' => e = .returned (.string ⟨(textsL l).toArray⟩) ∧ Below w.heap.size w w' := by
  obtain ⟨i0, hi, hz0, hz1, hz2⟩ := info_parts info9
  have HI := Aside0.mk hi; clear hi
  have HZ0 := Aside0.mk hz0; clear hz0
  have HZ1 := Aside0.mk hz1; clear hz1
  have HZ2 := Aside0.mk hz2; clear hz2
  have HSR := Aside0.mk hT; clear hT
  have HNE := Aside0.mk hne; clear hne
  have HLEN := Aside0.mk hlen; clear hlen
  obtain ⟨n, hn⟩ : ∃ n, l.length = n := ⟨_, rfl⟩
  rw [hn] at hl ⊢
  have HN := Aside0.mk hn; clear hn
  have hn0 : (0 : Int) ≤ (n : Int) := by omega
  go_enter Tryz.func20, Tryz.ntmps20
  go_wp2
  go_loopg [8, 3] n (fun f t8 t3 wr => ∃ (i : Nat) (A' : Option Addr) (c' : Nat), t8 = .int .i64 (i : Int) ∧ t3 = .slice A' i c' ∧ i + f = n ∧ Aside0 (TxtAt w ((l.take i).map pieceT) (.slice A' i c') wr))
  case atStart => exact ⟨0, none, 0, rfl, rfl, by omega, ⟨World.ownsRow_nil _ _ _ _, Below.refl _ _⟩⟩
  case round =>
    obtain ⟨i, A', c', rfl, rfl, hif, hA⟩ := hrel
    by_cases hi : i < n
    · cases gk with
      | zero => omega
      | succ f =>
        have hlt : i < l.length := by rw [HN.out]; exact hi
        have hti := List.getElem?_eq_getElem hlt
        obtain ⟨g, hAg, q0, q1, q2, q3, q4, q5⟩ := (HSR.out.below hA.out.below).cell hti
        have hxs : (l.take (i + 1)).map pieceT = (l.take i).map pieceT ++ [pieceT l[i]] := by rw [List.take_succ_eq_append_getElem hlt, List.map_append]; rfl
        have hli : ((l.take i).map pieceT).length = i := by rw [List.length_map, List.length_take, Nat.min_eq_left (by omega)]
        generalize l[i] = t at q0 q1 q2 q3 q4 q5 hxs
        have HXS := Aside0.mk hxs
        have HLI := Aside0.mk hli
        have hown := hA.out.own
        rw [hli] at hown
        have HOW := Aside0.mk hown
        have HBE := Aside0.mk hA.out.below
        have hsz := hA.out.below.size
        subst hAg
        obtain ⟨tk, tn, tx, ta, tl, tc⟩ := t
        simp only at q0 q1 q2 q3 q4 q5
        clear hti hlt hxs hli hown hA
        by_cases k5 : tk = 5
        · subst k5
          have HPX : pieceT ⟨5, tn, tx, ta, tl, tc⟩ = ⟨#[60]⟩ := rfl
          have HP : Aside0 (pieceT ⟨5, tn, tx, ta, tl, tc⟩ = ⟨#[60]⟩) := ⟨HPX⟩
          clear HPX
          go_wp2_with (at_builtin; refine wpList_append_own_at _ rfl _ _ 28 rfl w.heap.size 9 i0 _ 1 16 Tryz.underlying28 HI.out HZ0.out HZ1.out HZ2.out rfl (by decide) (.slice A' i c') i (((l.take i).map pieceT).map Value.string) rfl ((HOW.out.alloc _).alloc _) ⟨wr.heap.size + 1, 0, none⟩ 1 1 [.string ⟨#[60]⟩] rfl rfl (by intro j u h; have := cells_new (wr.alloc (.cells #[.int .i64 5, .int .i64 tn, .string tx, .int .i64 ta, .int .i64 tl, .int .i64 tc] 54)) #[.string ⟨#[60]⟩] 9 j u h; rwa [show (wr.alloc (.cells #[.int .i64 5, .int .i64 tn, .string tx, .int .i64 ta, .int .i64 tl, .int .i64 tc] 54)).heap.size = wr.heap.size + 1 by simp] at this) (by simp [Value.oneCell']) (by unfold maxLen; omega) (by omega) (by simp; omega) ?_; intro v' w3 hown' hgrow _ hat; obtain ⟨g', cap', rfl⟩ := ownsRow_succ hown'; have HO := Aside0.mk hown'; have HG := Aside0.mk hgrow; clear hown' hgrow hat)
          go_roundg f
          case measure => omega
          case rel =>
            refine ⟨i + 1, _, _, by go_num, rfl, by omega, ⟨?_, ?_⟩⟩
            · rw [HXS.out, HP.out]
              exact txt_more HLI.out HO.out
            · exact ((HBE.out.alloc hsz _).alloc (by simp; omega) _).grown HG.out (by simp; omega) (fun k hk => own_base HOW.out k hk)
        · by_cases k6 : tk = 6
          · subst k6
            have HPX : pieceT ⟨6, tn, tx, ta, tl, tc⟩ = ⟨#[59]⟩ := rfl
            have HP : Aside0 (pieceT ⟨6, tn, tx, ta, tl, tc⟩ = ⟨#[59]⟩) := ⟨HPX⟩
            clear HPX
            go_wp2_with (at_builtin; refine wpList_append_own_at _ rfl _ _ 28 rfl w.heap.size 9 i0 _ 1 16 Tryz.underlying28 HI.out HZ0.out HZ1.out HZ2.out rfl (by decide) (.slice A' i c') i (((l.take i).map pieceT).map Value.string) rfl ((HOW.out.alloc _).alloc _) ⟨wr.heap.size + 1, 0, none⟩ 1 1 [.string ⟨#[59]⟩] rfl rfl (by intro j u h; have := cells_new (wr.alloc (.cells #[.int .i64 6, .int .i64 tn, .string tx, .int .i64 ta, .int .i64 tl, .int .i64 tc] 54)) #[.string ⟨#[59]⟩] 9 j u h; rwa [show (wr.alloc (.cells #[.int .i64 6, .int .i64 tn, .string tx, .int .i64 ta, .int .i64 tl, .int .i64 tc] 54)).heap.size = wr.heap.size + 1 by simp] at this) (by simp [Value.oneCell']) (by unfold maxLen; omega) (by omega) (by simp; omega) ?_; intro v' w3 hown' hgrow _ hat; obtain ⟨g', cap', rfl⟩ := ownsRow_succ hown'; have HO := Aside0.mk hown'; have HG := Aside0.mk hgrow; clear hown' hgrow hat)
            go_roundg f
            case measure => omega
            case rel =>
              refine ⟨i + 1, _, _, by go_num, rfl, by omega, ⟨?_, ?_⟩⟩
              · rw [HXS.out, HP.out]
                exact txt_more HLI.out HO.out
              · exact ((HBE.out.alloc hsz _).alloc (by simp; omega) _).grown HG.out (by simp; omega) (fun k hk => own_base HOW.out k hk)
          · by_cases k7 : tk = 7
            · subst k7
              have HPX : pieceT ⟨7, tn, tx, ta, tl, tc⟩ = ⟨#[62]⟩ := rfl
              have HP : Aside0 (pieceT ⟨7, tn, tx, ta, tl, tc⟩ = ⟨#[62]⟩) := ⟨HPX⟩
              clear HPX
              go_wp2_with (at_builtin; refine wpList_append_own_at _ rfl _ _ 28 rfl w.heap.size 9 i0 _ 1 16 Tryz.underlying28 HI.out HZ0.out HZ1.out HZ2.out rfl (by decide) (.slice A' i c') i (((l.take i).map pieceT).map Value.string) rfl ((HOW.out.alloc _).alloc _) ⟨wr.heap.size + 1, 0, none⟩ 1 1 [.string ⟨#[62]⟩] rfl rfl (by intro j u h; have := cells_new (wr.alloc (.cells #[.int .i64 7, .int .i64 tn, .string tx, .int .i64 ta, .int .i64 tl, .int .i64 tc] 54)) #[.string ⟨#[62]⟩] 9 j u h; rwa [show (wr.alloc (.cells #[.int .i64 7, .int .i64 tn, .string tx, .int .i64 ta, .int .i64 tl, .int .i64 tc] 54)).heap.size = wr.heap.size + 1 by simp] at this) (by simp [Value.oneCell']) (by unfold maxLen; omega) (by omega) (by simp; omega) ?_; intro v' w3 hown' hgrow _ hat; obtain ⟨g', cap', rfl⟩ := ownsRow_succ hown'; have HO := Aside0.mk hown'; have HG := Aside0.mk hgrow; clear hown' hgrow hat)
              go_roundg f
              case measure => omega
              case rel =>
                refine ⟨i + 1, _, _, by go_num, rfl, by omega, ⟨?_, ?_⟩⟩
                · rw [HXS.out, HP.out]
                  exact txt_more HLI.out HO.out
                · exact ((HBE.out.alloc hsz _).alloc (by simp; omega) _).grown HG.out (by simp; omega) (fun k hk => own_base HOW.out k hk)
            · have HPX : pieceT ⟨tk, tn, tx, ta, tl, tc⟩ = tx := by simp only [pieceT]; rw [if_neg k5, if_neg k6, if_neg k7]
              have h5 : (tk == 5) = false := beq_eq_false_iff_ne.2 k5
              have h6 : (tk == 6) = false := beq_eq_false_iff_ne.2 k6
              have h7 : (tk == 7) = false := beq_eq_false_iff_ne.2 k7
              have HP : Aside0 (pieceT ⟨tk, tn, tx, ta, tl, tc⟩ = tx) := ⟨HPX⟩
              clear HPX
              go_wp2_with (at_builtin; refine wpList_append_own_at _ rfl _ _ 28 rfl w.heap.size 9 i0 _ 1 16 Tryz.underlying28 HI.out HZ0.out HZ1.out HZ2.out rfl (by decide) (.slice A' i c') i (((l.take i).map pieceT).map Value.string) rfl ((HOW.out.alloc _).alloc _) ⟨wr.heap.size + 1, 0, none⟩ 1 1 [.string tx] rfl rfl (by intro j u h; have := cells_new (wr.alloc (.cells #[.int .i64 tk, .int .i64 tn, .string tx, .int .i64 ta, .int .i64 tl, .int .i64 tc] 54)) #[.string tx] 9 j u h; rwa [show (wr.alloc (.cells #[.int .i64 tk, .int .i64 tn, .string tx, .int .i64 ta, .int .i64 tl, .int .i64 tc] 54)).heap.size = wr.heap.size + 1 by simp] at this) (by simp [Value.oneCell']) (by unfold maxLen; omega) (by omega) (by simp; omega) ?_; intro v' w3 hown' hgrow _ hat; obtain ⟨g', cap', rfl⟩ := ownsRow_succ hown'; have HO := Aside0.mk hown'; have HG := Aside0.mk hgrow; clear hown' hgrow hat)
              go_roundg f
              case measure => omega
              case rel =>
                refine ⟨i + 1, _, _, by go_num, rfl, by omega, ⟨?_, ?_⟩⟩
                · rw [HXS.out, HP.out]
                  exact txt_more HLI.out HO.out
                · exact ((HBE.out.alloc hsz _).alloc (by simp; omega) _).grown HG.out (by simp; omega) (fun k hk => own_base HOW.out k hk)
    · obtain rfl : i = n := by omega
      have hne : l ≠ [] := HNE.out
      have htk : l.take i = l := List.take_of_length_le (by rw [HN.out]; exact Nat.le_refl _)
      have hA2 := hA.out
      rw [htk] at hA2
      have hlm : (l.map pieceT).length = i := by rw [List.length_map, HN.out]
      have hpos : 0 < i := by
        rw [← HN.out]
        exact List.length_pos_iff.2 hne
      have hown := hA2.own
      rw [hlm] at hown
      obtain ⟨g, hAg, hcap, hg2, hcs⟩ : ∃ g, A' = some ⟨g, 0, none⟩ ∧ i ≤ c' ∧ g < wr.heap.size ∧ ∀ (j : Nat) x, (l.map pieceT)[j]? = some x → wr.cell? ⟨g, j, none⟩ = some (.string x) := by
        rcases hown.2 with ⟨_, h1⟩ | ⟨g, cap, cur, h1, _, hh, hcap, _, _, ht⟩
        · omega
        · injection h1 with h1 h2 h3
          refine ⟨g, h1, by omega, heap_lt hh, fun j x hx => ?_⟩
          rw [cell_of hh]
          have hj : j < i := by
            have := (List.getElem?_eq_some_iff.1 hx).1
            omega
          have : ((l.map pieceT).map Value.string)[j]? = some (.string x) := by rw [List.getElem?_map, hx]; rfl
          rw [← ht, List.getElem?_take_of_lt (by omega)] at this
          simpa using this
      subst hAg
      have hj := join_at (l.map pieceT) g c' wr hcs hg2 (by omega) (by omega) HLEN.out
      rw [hlm] at hj
      have HJ : Aside0 (Calls Tryz.prog 18 #[.slice (some ⟨g, 0, none⟩) i c', .string ⟨#[32]⟩] wr fun e w' => e = .returned (.string ⟨(textsL l).toArray⟩) ∧ Below wr.heap.size wr w') := ⟨hj⟩
      have HBE := Aside0.mk hA2.below
      clear hj hcs hown hA2 htk hne hlm hA
      go_wp2_with (go_at_call 18; (with_reducible refine HJ.out.mono ?_); rintro e w1 ⟨rfl, hb⟩; have HB := Aside0.mk (HBE.out.trans (hb.mono HBE.out.size)); clear hb)
      go_ret
      exact ⟨rfl, HB.out⟩
end Go.Proofs.YtfnhjdehlikbaaaGreatDoor.Lx
namespace Go.Proofs.YtfnhjdehlikbaaaGreatDoor.Lx
open Go.RowKit Go.Proofs.YtfnhjdehlikbaaaGreatDoorW.PrintWords
def digs (l : List UInt8) : Prop := ∀ b ∈ l, 48 ≤ b.toNat ∧ b.toNat ≤ 57
def decV (l : List UInt8) (v : Nat) : Nat := l.foldl (fun v b => 10 * v + (b.toNat - 48)) v
theorem numL_decV : ∀ (l : List UInt8) (v : Nat), digs l → numL l v ≤ 1073741824 → numL l v = (decV l v : Nat) := by
  intro l
  induction l with
  | nil => intro v _ _; rfl
  | cons b l ih =>
    intro v hd h
    have hb := hd b (by simp)
    simp only [numL] at h ⊢
    have e : 10 * (v : Int) + ((b.toNat : Int) - 48) = ((10 * v + (b.toNat - 48) : Nat) : Int) := by omega
    rw [e] at h ⊢
    split at h
    · omega
    · rename_i hn
      rw [if_neg hn]
      exact ih _ (fun x hx => hd x (by simp [hx])) h
theorem decV_snoc (l : List UInt8) (b : UInt8) (v : Nat) : decV (l ++ [b]) v = 10 * decV l v + (b.toNat - 48) := by
  unfold decV; rw [List.foldl_append]; rfl
theorem decV_ge : ∀ (l : List UInt8) (v : Nat), v ≤ decV l v := by
  intro l
  induction l with
  | nil => intro v; exact Nat.le_refl _
  | cons b l ih =>
    intro v
    have := ih (10 * v + (b.toNat - 48))
    show v ≤ decV l (10 * v + (b.toNat - 48))
    omega
theorem decDigits_decV : ∀ (n : Nat) (l : List UInt8), l.length = n + 1 → digs l → (∀ b, l.head? = some b → b.toNat ≠ 48 ∨ n = 0) → Lib.decDigits (decV l 0) = l := by
  intro n
  induction n with
  | zero =>
    intro l hl hd _
    obtain ⟨b, rfl⟩ : ∃ b, l = [b] := List.length_eq_one_iff.1 hl
    have hb := hd b (by simp)
    have e : decV [b] 0 = b.toNat - 48 := by simp [decV]
    rw [e, Lib.decDigits, dif_pos (by omega)]
    congr 1
    apply UInt8.toNat_inj.1
    rw [UInt8.toNat_ofNat']
    have := b.toNat_lt
    omega
  | succ n ih =>
    intro l hl hd h0
    rcases List.eq_nil_or_concat l with rfl | ⟨l', b, rfl⟩
    · simp at hl
    · rw [List.concat_eq_append] at hl hd h0 ⊢
      have hl' : l'.length = n + 1 := by simpa using hl
      have hb := hd b (by simp)
      have hd' : digs l' := fun x hx => hd x (by simp [hx])
      obtain ⟨c, t, rfl⟩ : ∃ c t, l' = c :: t := by
        cases l' with
        | nil => simp at hl'
        | cons c t => exact ⟨c, t, rfl⟩
      have hc := hd' c (by simp)
      have hc0 : c.toNat ≠ 48 := by
        rcases h0 c (by simp) with h | h
        · exact h
        · omega
      have hih := ih (c :: t) hl' hd' (fun x hx => .inl (by simp at hx; rw [← hx]; exact hc0))
      have hpos : 1 ≤ decV (c :: t) 0 := by
        have := decV_ge t (10 * 0 + (c.toNat - 48))
        show 1 ≤ decV t (10 * 0 + (c.toNat - 48))
        omega
      rw [decV_snoc, Lib.decDigits, dif_neg (by omega), show (10 * decV (c :: t) 0 + (b.toNat - 48)) / 10 = decV (c :: t) 0 by omega, show (10 * decV (c :: t) 0 + (b.toNat - 48)) % 10 = b.toNat - 48 by omega, hih]
      congr 2
      apply UInt8.toNat_inj.1
      rw [UInt8.toNat_ofNat']
      have := b.toNat_lt
      omega
theorem digs_of_run {s : ByteArray} (h : run isDigit s 0 = s.size) : digs s.data.toList := by
  intro b hb
  obtain ⟨i, hi, rfl⟩ := List.getElem_of_mem hb
  have hi' : i < s.size := by rw [← len_data]; exact hi
  have := digit_range (allDigits_of_run h i hi')
  have e : s.data.toList[i] = s[i]'hi' := rfl
  rw [e]
  omega
theorem itoa_number {s : ByteArray} (hd : run isDigit s 0 = s.size) (h0 : 0 < s.size) (hz : s.size = 1 ∨ bt s 0 ≠ 48) (hn : number s ≤ 1073741824) : (⟨(Lib.itoa (number s)).toArray⟩ : ByteArray) = s := by
  have hg := digs_of_run hd
  have he := numL_decV s.data.toList 0 hg hn
  have hnum : number s = (decV s.data.toList 0 : Nat) := he
  have hl : s.data.toList.length = (s.size - 1) + 1 := by rw [len_data]; omega
  have hh := decDigits_decV (s.size - 1) s.data.toList hl hg (fun b hb => by
    rcases hz with hz | hz
    · exact .inr (by omega)
    · left
      intro hb48
      apply hz
      rw [bt_list s 0 (by omega)]
      have : s.data.toList[0]? = some b := by rw [← hb, List.head?_eq_getElem?]
      rw [show ((0 : Int)).toNat = 0 from rfl, this]
      show (b.toNat : Int) = 48
      omega)
  apply ByteArray.ext
  rw [hnum]
  have hi : Lib.itoa ((decV s.data.toList 0 : Nat) : Int) = Lib.decDigits (decV s.data.toList 0) := by
    unfold Lib.itoa
    rw [if_neg (by omega), Int.toNat_natCast]
  rw [hi, hh]
def wfB (t : Tok) : Bool :=
  (t.kind == 1 && (t.num == 0 && (pathF t.text && !isKw t.text))) ||
  ((t.kind == 2 && (decide (t.text.size ≤ 20) && (run isDigit t.text 0 == t.text.size && (decide (0 < t.text.size) && (number t.text == t.num && (decide (t.num ≤ 1073741824) && (t.text.size == 1 || bt t.text 0 != 48))))))) ||
  ((t.kind == 3 && (t.num == 0 && among sgs t.text)) ||
  (t.kind == 4 && (t.num == 0 && isKw t.text))))
theorem wfT_of_B {t : Tok} (h : wfB t = true) : WfT t := by
  unfold wfB at h
  simp only [Bool.or_eq_true, Bool.and_eq_true, beq_iff_eq, decide_eq_true_eq, Bool.not_eq_true', bne_iff_ne] at h
  rcases h with ⟨h1, h2, h3, h4⟩ | ⟨h1, h2, h3, h4, h5, h6, h7⟩ | ⟨h1, h2, h3⟩ | ⟨h1, h2, h3⟩
  · exact .inl ⟨h1, h2, h3, h4⟩
  · have hi := itoa_number h3 h4 h7 (by omega)
    have hnn := number_le t.text (allDigits_of_run h3)
    refine .inr (.inl ⟨h1, h2, h3, h4, h5, by omega, h6, ?_⟩)
    rw [← h5]
    exact hi
  · exact .inr (.inr (.inl ⟨h1, h2, h3⟩))
  · exact .inr (.inr (.inr ⟨h1, h2, h3⟩))
def goodB (b t : Tok) : Bool :=
  wfB t && (decide (0 ≤ t.at_) && (decide (t.at_ ≤ 65536) && (decide (0 ≤ t.line) && (decide (t.line ≤ 65536) && (decide (0 ≤ t.col) && (decide (t.col ≤ 65536) && (decide (t.text.size ≤ 65536) && (decide (b.line ≤ t.line) && (decide (b.line = t.line → b.col + b.text.size ≤ t.col) && decide (b.at_ + b.text.size ≤ t.at_))))))))))
theorem goodT_of_B {b t : Tok} (h : goodB b t = true) : GoodT b t := by
  unfold goodB at h
  simp only [Bool.and_eq_true, decide_eq_true_eq] at h
  obtain ⟨h1, h2, h3, h4, h5, h6, h7, h8, h9, h10, h11⟩ := h
  exact ⟨wfT_of_B h1, h2, h3, h4, h5, h6, h7, h8, h9, h10, h11⟩
def goodF (b : Tok) : List Tok → Bool
  | [] => true
  | t :: l => goodB b t && goodF t l
theorem goodL_of_F : ∀ (l : List Tok) (b : Tok), goodF b l = true → ∀ i t, l[i]? = some t → GoodT (if i = 0 then b else l[i - 1]?.getD tokZ) t := by
  intro l
  induction l with
  | nil => intro b _ i t h; simp at h
  | cons x l ih =>
    intro b h i t hi
    simp only [goodF, Bool.and_eq_true] at h
    cases i with
    | zero =>
      simp at hi
      subst hi
      exact goodT_of_B h.1
    | succ i =>
      have := ih x h.2 i t (by simpa using hi)
      rw [if_neg (by omega)]
      cases i with
      | zero => simpa using this
      | succ i => simpa using this
def rawOkB (s : ByteArray) : Bool := goodF tokZ (rawF s).1 && decide ((rawF s).1.length ≤ 4000)
theorem rawOk_of_B {s : ByteArray} (h : rawOkB s = true) : RawOk s := by
  unfold rawOkB at h
  simp only [Bool.and_eq_true, decide_eq_true_eq] at h
  exact ⟨goodL_of_F _ _ h.1, h.2⟩
end Go.Proofs.YtfnhjdehlikbaaaGreatDoor.Lx
namespace Go.Proofs.YtfnhjdehlikbaaaGreatDoor.Lx
open Go.RowKit Go.Proofs.YtfnhjdehlikbaaaGreatDoorW.PrintWords
def linesF (s : ByteArray) : List ByteArray := Lib.splitB ⟨#[10]⟩ 0 (Lib.countB s ⟨#[10]⟩) s
theorem genSplit_nl (s : ByteArray) (hs : s.size < 4294967281) (w : World) :
    Calls Tryz.prog 58 #[.string s, .string ⟨#[10]⟩, .int .i64 0, .int .i64 (-1)] w fun e w' => e = .returned (.slice (some ⟨w.heap.size, 0, none⟩) (linesF s).length (linesF s).length) ∧ w' = w.alloc (.cells ((linesF s).map Value.string).toArray 9) := by
  have h1 : 1 ≤ (⟨#[10]⟩ : ByteArray).size := by decide
  have hle := Lib.countB_le (⟨#[10]⟩ : ByteArray) h1 s.size s (Nat.le_refl _)
  have hlen := Lib.splitB_all (⟨#[10]⟩ : ByteArray) h1 0 _ s rfl
  have hC : Calls Tryz.prog (Tryz.laysSplit_ren.f 138) #[.string s, .string ⟨#[10]⟩] w fun e w' => e = .returned (.int .i64 (Lib.countB s ⟨#[10]⟩)) ∧ w' = w := by
    refine (Any.strings_Count_one { Tryz.laysSplit with } s 10 w).mono fun e w' ⟨he, hw⟩ => ⟨?_, hw⟩
    rw [he]
    show _ = Ending.returned (Value.int .i64 ((Lib.count s.data.toList [10] : Nat) : Int))
    rw [Lib.count_one]
    rfl
  have hI : ∀ (x : ByteArray) (c : Array Value), x.size ≤ s.size → Calls Tryz.prog (Tryz.laysSplit_ren.f 143) #[.string x, .string ⟨#[10]⟩] (w.alloc (.cells c (Tryz.laysSplit_ren.t 9))) fun e w' => e = .returned (.int .i64 (Lib.indexB x ⟨#[10]⟩)) ∧ w' = w.alloc (.cells c (Tryz.laysSplit_ren.t 9)) := fun x c _ => by
    refine (Any.strings_Index_one { Tryz.laysSplit with } x 10 _).mono fun e w' ⟨he, hw⟩ => ⟨?_, hw⟩
    rw [he]
    show _ = Ending.returned (Value.int .i64 (Lib.index x.data.toList [10]))
    rw [Lib.index_one]
  have c := Any.strings_genSplit_core { Tryz.laysSplit with } (by kernel_rfl) s ⟨#[10]⟩ 0 (-1) (Lib.countB s ⟨#[10]⟩ + 1) w hs h1 (Nat.zero_le _) hI hC (by decide) (by decide) (by rw [if_pos (by decide)]; omega)
  rw [Nat.add_sub_cancel, hlen] at c
  have e2 : Lib.cellsOf (Lib.splitB ⟨#[10]⟩ 0 (Lib.countB s ⟨#[10]⟩) s) (Lib.countB s ⟨#[10]⟩ + 1) = ((linesF s).map Value.string).toArray := by rw [← hlen]; exact Lib.cellsOf_full _
  rw [e2] at c
  have hl : (linesF s).length = Lib.countB s ⟨#[10]⟩ + 1 := hlen
  rw [hl]
  exact c
set_option maxRecDepth 100000 in
theorem split_nl (s : ByteArray) (hs : s.size < 4294967281) (w : World) :
    Calls Tryz.prog 23 #[.string s, .string ⟨#[10]⟩] w fun e w' => e = .returned (.slice (some ⟨w.heap.size, 0, none⟩) (linesF s).length (linesF s).length) ∧ w' = w.alloc (.cells ((linesF s).map Value.string).toArray 9) := by
  have HC := Aside0.mk (genSplit_nl s hs w)
  generalize linesF s = ls at HC ⊢
  go_enter Tryz.func23, Tryz.ntmps23
  go_wp2_with (go_at_call 58; (with_reducible refine HC.out.mono ?_); rintro e w1 ⟨rfl, rfl⟩)
  go_ret
  exact ⟨rfl, rfl⟩
def sumL (l : List ByteArray) (n : Nat) : Int := (((l.take n).map (fun x => x.size + 1)).sum : Nat)
def indexF (s : ByteArray) (line col : Int) : Int × Int :=
  if (65536 : Int) < s.size then (0, 11)
  else if line < 0 ∨ ((linesF s).length : Int) ≤ line ∨ col < 0 ∨ (((linesF s)[line.toNat]?.getD ⟨#[]⟩).size : Int) < col then (0, 3)
  else (col + sumL (linesF s) line.toNat, 0)
theorem splitB_size (sep : ByteArray) (save : Nat) : ∀ (k : Nat) (s x : ByteArray), x ∈ Lib.splitB sep save k s → x.size ≤ s.size := by
  intro k
  induction k with
  | zero =>
    intro s x hx
    rw [Lib.splitB_zero] at hx
    simp at hx
    rw [hx]
    exact Nat.le_refl _
  | succ k ih =>
    intro s x hx
    rcases Lib.indexB_cases s sep with h | ⟨i, hi, _⟩
    · rw [Lib.splitB_miss _ _ _ _ h] at hx
      simp at hx
      rw [hx]
      exact Nat.le_refl _
    · rw [Lib.splitB_hit _ _ _ _ i hi] at hx
      rcases List.mem_cons.1 hx with rfl | hx
      · simp; omega
      · refine Nat.le_trans (ih _ _ hx) ?_
        simp
theorem lines_size (s x : ByteArray) (h : x ∈ linesF s) : x.size ≤ s.size := splitB_size _ _ _ _ _ h
theorem lines_len (s : ByteArray) : (linesF s).length ≤ s.size + 2 := by
  have := Lib.splitB_length_le ⟨#[10]⟩ 0 (Lib.countB s ⟨#[10]⟩) s
  have := Lib.countB_le (⟨#[10]⟩ : ByteArray) (by decide) s.size s (Nat.le_refl _)
  unfold linesF
  omega
theorem sumL_succ (l : List ByteArray) (k : Nat) (x : ByteArray) (h : l[k]? = some x) : sumL l (k + 1) = sumL l k + (x.size + 1) := by
  unfold sumL
  rw [List.take_add_one, h]
  simp
theorem sumL_le (l : List ByteArray) (M : Nat) (h : ∀ x ∈ l, x.size ≤ M) : ∀ k, 0 ≤ sumL l k ∧ sumL l k ≤ k * (M + 1) := by
  intro k
  induction k with
  | zero => simp [sumL]
  | succ k ih =>
    cases hk : l[k]? with
    | none =>
      have : sumL l (k + 1) = sumL l k := by
        unfold sumL
        rw [List.take_add_one, hk]
        simp
      rw [this]
      refine ⟨ih.1, Int.le_trans ih.2 ?_⟩
      have : ((k + 1 : Nat) : Int) = k + 1 := by omega
      rw [this, Int.add_mul]
      omega
    | some x =>
      have hx := h x (List.mem_of_getElem? hk)
      rw [sumL_succ l k x hk]
      have : ((k + 1 : Nat) : Int) = k + 1 := by omega
      rw [this, Int.add_mul]
      omega
set_option maxRecDepth 100000 in
set_option maxHeartbeats 8000000 in
theorem indexF_any (s : ByteArray) (line col : Int) (w : World) (hs : s.size < 4294967281) : Calls Tryz.prog 34 #[.string s, .int .i64 line, .int .i64 col] w fun e w' => e = .returned (.tuple #[.int .i64 (indexF s line col).1, .int .i64 (indexF s line col).2]) ∧ Below w.heap.size w w' := by
  obtain ⟨r, hr⟩ : ∃ r, indexF s line col = r := ⟨_, rfl⟩
  rw [hr]
  unfold indexF at hr
  by_cases h1 : (65536 : Int) < s.size
  · rw [if_pos h1] at hr
    subst hr
    go_enter Tryz.func34, Tryz.ntmps34
    go_wp2
    go_ret2
    exact ⟨rfl, Below.refl _ _⟩
  · rw [if_neg h1] at hr
    have HC := Aside0.mk (split_nl s hs w)
    have hll := lines_len s
    have hls : ∀ x ∈ linesF s, x.size ≤ 65536 := fun x hx => Nat.le_trans (lines_size s x hx) (by omega)
    have hcell : ∀ (k : Nat) (x : ByteArray), (linesF s)[k]? = some x → (w.alloc (.cells ((linesF s).map Value.string).toArray 9)).cell? ⟨w.heap.size, k, none⟩ = some (.string x) := fun k x hx => by
      rw [cell_of (heap_new w _)]
      simp [hx]
    have hsum := sumL_le (linesF s) 65536 hls
    have HW : Aside0 (Below w.heap.size w (w.alloc (.cells ((linesF s).map Value.string).toArray 9))) := ⟨(Below.refl _ w).alloc (Nat.le_refl _) _⟩
    generalize linesF s = ls at hr HC hll hls hcell hsum HW
    obtain ⟨n, hn⟩ : ∃ n, ls.length = n := ⟨_, rfl⟩
    rw [hn] at hr HC hll
    have HN := Aside0.mk hn
    have HCE := Aside0.mk hcell
    have HSU := Aside0.mk hsum
    have HLS := Aside0.mk hls
    clear hn hcell hsum hls
    have hn0 : (0 : Int) ≤ (n : Int) := by omega
    by_cases h2 : line < 0
    · rw [if_pos (.inl h2)] at hr
      subst hr
      go_enter Tryz.func34, Tryz.ntmps34
      go_wp2_with (go_at_call 23; (with_reducible refine HC.out.mono ?_); rintro e w1 ⟨rfl, rfl⟩)
      go_ret2
      exact ⟨rfl, HW.out⟩
    · by_cases h3 : (n : Int) ≤ line
      · rw [if_pos (.inr (.inl h3))] at hr
        subst hr
        go_enter Tryz.func34, Tryz.ntmps34
        go_wp2_with (go_at_call 23; (with_reducible refine HC.out.mono ?_); rintro e w1 ⟨rfl, rfl⟩)
        go_ret2
        exact ⟨rfl, HW.out⟩
      · by_cases h4 : col < 0
        · rw [if_pos (.inr (.inr (.inl h4)))] at hr
          subst hr
          go_enter Tryz.func34, Tryz.ntmps34
          go_wp2_with (go_at_call 23; (with_reducible refine HC.out.mono ?_); rintro e w1 ⟨rfl, rfl⟩)
          go_ret2
          exact ⟨rfl, HW.out⟩
        · obtain ⟨m, rfl⟩ : ∃ m : Nat, line = (m : Int) := ⟨line.toNat, by omega⟩
          have hm : m < ls.length := by rw [HN.out]; omega
          have htm := List.getElem?_eq_getElem hm
          rw [Int.toNat_natCast, htm, Option.getD_some] at hr
          have hcm := HCE.out m _ htm
          have hlm := HLS.out _ (List.getElem_mem hm)
          generalize ls[m] = x at hr htm hcm hlm
          by_cases h5 : (x.size : Int) < col
          · rw [if_pos (.inr (.inr (.inr h5)))] at hr
            subst hr
            clear htm
            go_enter Tryz.func34, Tryz.ntmps34
            go_wp2_with (go_at_call 23; (with_reducible refine HC.out.mono ?_); rintro e w1 ⟨rfl, rfl⟩)
            go_ret2
            exact ⟨rfl, HW.out⟩
          · rw [if_neg (by omega)] at hr
            have HR := Aside0.mk hr
            clear htm hr
            go_enter Tryz.func34, Tryz.ntmps34
            go_wp2_with (go_at_call 23; (with_reducible refine HC.out.mono ?_); rintro e w1 ⟨rfl, rfl⟩)
            go_loop [39, 9] (fun t39 t9 => ∃ (i : Nat) (a : Int), t39 = .int .i64 (i : Int) ∧ t9 = .int .i64 a ∧ i ≤ m ∧ 0 ≤ a ∧ a ≤ 140737488351232 ∧ Aside0 (a = col + sumL ls i)) (fun t39 _ => m - (intOf t39).toNat)
            case atStart => exact ⟨0, col, rfl, rfl, by omega, by omega, by omega, ⟨by simp [sumL]⟩⟩
            case round =>
              obtain ⟨i, a, rfl, rfl, him, ha0, ha1, hA⟩ := hrel
              by_cases hi : i < m
              · have hil : i < ls.length := by omega
                have hti := List.getElem?_eq_getElem hil
                have hci := HCE.out i _ hti
                have hss := sumL_succ ls i _ hti
                have hli := HLS.out _ (List.getElem_mem hil)
                generalize ls[i] = z at hci hss hli
                have hs1 := HSU.out (i + 1)
                have hA1 := hA.out
                have hbd : ((i + 1 : Nat) : Int) * (65536 + 1) ≤ 65540 * 65537 := Int.mul_le_mul_of_nonneg_right (by omega) (by omega)
                have HSS := Aside0.mk hss
                have hub : a + (z.size + 1) ≤ 140737488351232 := by
                  have h2 := hs1.2
                  omega
                clear hss hs1 hti hA1 hbd
                go_wp2
                go_round
                case rel => exact ⟨i + 1, _, by go_num, rfl, by omega, by omega, by omega, ⟨by rw [HSS.out, hA.out]; omega⟩⟩
                case measure => simp [intOf]; omega
              · obtain rfl : i = m := by omega
                go_wp2
                go_ret2
                rw [← HR.out, ← hA.out]
                exact ⟨rfl, HW.out⟩
end Go.Proofs.YtfnhjdehlikbaaaGreatDoor.Lx
namespace Go.Proofs.YtfnhjdehlikbaaaGreatDoor.Lx
open Go.RowKit Go.Proofs.YtfnhjdehlikbaaaGreatDoorW.PrintWords
def SrcC (A : Option Addr) (l : List Tok) (W : World) : Prop := ∀ (i : Nat) t, l[i]? = some t → ∃ g, A = some ⟨g, 0, none⟩ ∧
    W.cell? ⟨g, i * 6, none⟩ = some (.int .i64 t.kind) ∧ W.cell? ⟨g, i * 6 + 1, none⟩ = some (.int .i64 t.num) ∧ W.cell? ⟨g, i * 6 + 2, none⟩ = some (.string t.text) ∧ W.cell? ⟨g, i * 6 + 3, none⟩ = some (.int .i64 t.at_) ∧ W.cell? ⟨g, i * 6 + 4, none⟩ = some (.int .i64 t.line) ∧ W.cell? ⟨g, i * 6 + 5, none⟩ = some (.int .i64 t.col)
theorem SrcC.below {A : Option Addr} {l : List Tok} {W W' : World} (h : SrcC A l W) (hb : Below W.heap.size W W') : SrcC A l W' := by
  intro i t ht
  obtain ⟨g, hA, h0, h1, h2, h3, h4, h5⟩ := h i t ht
  have e : ∀ o v, W.cell? ⟨g, o, none⟩ = some v → W'.cell? ⟨g, o, none⟩ = some v := fun o v hv => (hb.cell (p := ⟨g, o, none⟩) (World.block_lt_of_cell? _ _ hv)).trans hv
  exact ⟨g, hA, e _ _ h0, e _ _ h1, e _ _ h2, e _ _ h3, e _ _ h4, e _ _ h5⟩
theorem SrcT.srcC {A : Option Addr} {c : Nat} {l : List Tok} {W : World} (h : SrcT A c l W) : SrcC A l W := fun _ _ ht => h.cell ht
structure TheirAt (w : World) (l : List Tok) (v : Value) (W : World) : Prop where
  own : W.ownsRow w.heap.size 54 6 v l.length (flat l)
  below : Below w.heap.size w W
set_option maxRecDepth 100000 in
set_option maxHeartbeats 8000000 in
theorem theirs_any (l : List Tok) (A : Option Addr) (c : Nat) (w : World) (hl : l.length ≤ 100000) (hT : SrcC A l w) :
    Calls Tryz.prog 41 #[.slice A l.length c] w fun e w' => ∃ v, e = .returned v ∧ Kd.R kTok 54 w' w.heap.size (fun _ => True) v l ∧ Below w.heap.size w w' := by
  obtain ⟨i0, hi, hz0, hz1, hz2⟩ := info_parts info54
  have HI := Aside0.mk hi; clear hi
  have HZ0 := Aside0.mk hz0; clear hz0
  have HZ1 := Aside0.mk hz1; clear hz1
  have HZ2 := Aside0.mk hz2; clear hz2
  have HSR := Aside0.mk hT; clear hT
  obtain ⟨n, hn⟩ : ∃ n, l.length = n := ⟨_, rfl⟩
  rw [hn] at hl ⊢
  have HN := Aside0.mk hn; clear hn
  have hn0 : (0 : Int) ≤ (n : Int) := by omega
  go_enter Tryz.func41, Tryz.ntmps41
  go_wp2
  go_loopg [8, 3] n (fun f t8 t3 wr => ∃ (i : Nat) (A' : Option Addr) (c' : Nat), t8 = .int .i64 (i : Int) ∧ t3 = .slice A' i c' ∧ i + f = n ∧ Aside0 (TheirAt w (l.take i) (.slice A' i c') wr))
  case atStart => exact ⟨0, none, 0, rfl, rfl, by omega, ⟨World.ownsRow_nil _ _ _ _, Below.refl _ _⟩⟩
  case round =>
    obtain ⟨i, A', c', rfl, rfl, hif, hA⟩ := hrel
    by_cases hi : i < n
    · cases gk with
      | zero => omega
      | succ f =>
        have hlt : i < l.length := by rw [HN.out]; exact hi
        have hti := List.getElem?_eq_getElem hlt
        obtain ⟨g, hAg, q0, q1, q2, q3, q4, q5⟩ := (HSR.out.below hA.out.below) i _ hti
        have hxs : l.take (i + 1) = l.take i ++ [l[i]] := List.take_succ_eq_append_getElem hlt
        have hli : (l.take i).length = i := by rw [List.length_take, Nat.min_eq_left (by omega)]
        generalize l[i] = t at q0 q1 q2 q3 q4 q5 hxs
        have HXS := Aside0.mk hxs
        have HLI := Aside0.mk hli
        have hown := hA.out.own
        rw [hli] at hown
        have HOW := Aside0.mk hown
        have HBE := Aside0.mk hA.out.below
        have hsz := hA.out.below.size
        subst hAg
        obtain ⟨tk, tn, tx, ta, tl, tc⟩ := t
        simp only at q0 q1 q2 q3 q4 q5
        clear hti hlt hxs hli hown hA
        go_wp2_with (at_builtin; refine wpList_append_own_at _ rfl _ _ 34 rfl w.heap.size 54 i0 _ 6 56 Tryz.underlying34 HI.out HZ0.out HZ1.out HZ2.out rfl (by decide) (.slice A' i c') i (flat (l.take i)) rfl ((HOW.out.alloc _).alloc _) ⟨wr.heap.size + 1, 0, none⟩ 1 1 [.int .i64 tk, .int .i64 tn, .string tx, .int .i64 ta, .int .i64 tl, .int .i64 tc] rfl rfl (by intro j u h; have := cells_new (wr.alloc (.cells #[.int .i64 tk, .int .i64 tn, .string tx, .int .i64 ta, .int .i64 tl, .int .i64 tc] 121)) #[.int .i64 tk, .int .i64 tn, .string tx, .int .i64 ta, .int .i64 tl, .int .i64 tc] 54 j u h; rwa [show (wr.alloc (.cells #[.int .i64 tk, .int .i64 tn, .string tx, .int .i64 ta, .int .i64 tl, .int .i64 tc] 121)).heap.size = wr.heap.size + 1 by simp] at this) (by simp [Value.oneCell']) (by unfold maxLen; omega) (by omega) (by simp; omega) ?_; intro v' w3 hown' hgrow _ hat; obtain ⟨g', cap', rfl⟩ := ownsRow_succ hown'; have HO := Aside0.mk hown'; have HG := Aside0.mk hgrow; clear hown' hgrow hat)
        go_roundg f
        case measure => omega
        case rel =>
          refine ⟨i + 1, _, _, by go_num, rfl, by omega, ⟨?_, ?_⟩⟩
          · rw [HXS.out, flat_snoc, List.length_append, HLI.out]
            exact HO.out
          · exact ((HBE.out.alloc hsz _).alloc (by simp; omega) _).grown HG.out (by simp; omega) (fun k hk => own_base HOW.out k hk)
    · obtain rfl : i = n := by omega
      have htk : l.take i = l := List.take_of_length_le (by rw [HN.out]; exact Nat.le_refl _)
      have hA2 := hA.out
      rw [htk] at hA2
      have HA2 := Aside0.mk hA2
      clear hA htk hA2
      go_wp2
      go_ret
      exact ⟨_, rfl, ⟨fun _ _ => trivial, flat l, HA2.out.own, reps_flat _ _ _ _⟩, HA2.out.below⟩
end Go.Proofs.YtfnhjdehlikbaaaGreatDoor.Lx
