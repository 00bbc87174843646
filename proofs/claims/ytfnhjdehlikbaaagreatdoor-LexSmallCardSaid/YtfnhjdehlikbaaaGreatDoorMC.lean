import Derived.Test.YtfnhjdehlikbaaaGreatDoorM7
import Derived.Test.YtfnhjdehlikbaaaGreatDoorM2
import Derived.Test.YtfnhjdehlikbaaaGreatDoorM5
import Derived.BigQuiet
set_option linter.unusedVariables false
set_option linter.unusedSimpArgs false
namespace Go.Proofs.YtfnhjdehlikbaaaGreatDoor.Lx
open Go.RowKit Go.Proofs.YtfnhjdehlikbaaaGreatDoorW.PrintWords Go.BigFrame
theorem region_class {P : Program} {id : Nat} {Q : Exit → Act → World → Prop} {a : Act} {w : World} {l : List Oper} {C : World → Prop} (hm : P.follows .mixedOrders = true) (hB : Region.lexB .any l.toArray = true) (hC : C w.drew)
    (h : wpQuiet P l.toArray C (fun a' => ∀ w', C w' → Q .normal a' w') l a) : (Code.region id l.toArray true).wp P Q a w :=
  wp_region_quiet hm hB hC (by simpa using h)
theorem quiet_ld {P : Program} {C : World → Prop} {o : Oper} {a : Act} {K : Act → Prop} (v : Value) (h : ∀ W, C W → (execOp a.eval o).run P W = .ok (.value v) W) (hk : K (a.put o.dst v)) : o.quiet P a C K :=
  ⟨v, fun W hW => by unfold Oper.quietAt; rw [h W hW]; exact ⟨rfl, rfl⟩, hk⟩
set_option maxRecDepth 100000 in
set_option maxHeartbeats 8000000 in
theorem formed1_num (tn : Int) (tx : ByteArray) (ta tl tc : Int) (w : World) (hn : ¬ tn = 0) :
    Calls Tryz.prog 141 #[.agg #[.int .i64 1, .int .i64 tn, .string tx, .int .i64 ta, .int .i64 tl, .int .i64 tc]] w fun e w' => e = .returned (.bool false) ∧ Below w.heap.size w w' := by
  have HB : Aside0 (∀ W, Calls Tryz.prog 144 #[.agg #[.int .i64 1, .int .i64 tn, .string tx, .int .i64 ta, .int .i64 tl, .int .i64 tc]] W fun e w' => e = .returned (.agg #[.int .i64 1, .int .i64 tn, .string tx]) ∧ Below W.heap.size W w') := ⟨fun W => bare_any ⟨1, tn, tx, ta, tl, tc⟩ W⟩
  have hn1 : (tn == 0) = false := by rw [beq_eq_false_iff_ne]; exact hn
  have hF : Aside0 (FormAt w 1 tn tx ta tl tc 0 ((w.alloc (.cells #[.int .i64 1, .int .i64 tn, .string tx, .int .i64 ta, .int .i64 tl, .int .i64 tc] 54)).alloc (.cells #[.int .i64 1, .int .i64 0, .string tx] 184))) :=
    ⟨⟨heap_alloc (heap_new w _) _, heap_new' _ _ _ (by simp), ((Below.refl _ w).alloc (Nat.le_refl _) _).alloc (by simp) _⟩⟩
  go_enter Tryz.func141, Tryz.ntmps141
  go_wp2
  generalize ((w.alloc (.cells #[.int .i64 1, .int .i64 tn, .string tx, .int .i64 ta, .int .i64 tl, .int .i64 tc] 54)).alloc (.cells #[.int .i64 1, .int .i64 0, .string tx] 184)) = W1 at hF ⊢
  refine region_class (C := FormAt w 1 tn tx ta tl tc 0) (by kernel_rfl) (by kernel_rfl) hF.out.drew ?_
  repeat (first
    | go_big_quiet_skip
    | (go_big_quiet_want; first
        | (refine quiet_ld (.string tx) ?_ ?_; (intro W hW; obtain ⟨k0, k1, k2, k3, k4, k5, k6, k7, k8⟩ := hW.cells; go_simp); (try simp only [Act.put, List.setIfInBounds_toArray, List.set_cons_zero, List.set_cons_succ]); go_big_quiet_on)
        | (refine quiet_ld (.agg #[.int .i64 1, .int .i64 tn, .string tx, .int .i64 ta, .int .i64 tl, .int .i64 tc]) ?_ ?_; (intro W hW; obtain ⟨k0, k1, k2, k3, k4, k5, k6, k7, k8⟩ := hW.cells; go_simp); (try simp only [Act.put, List.setIfInBounds_toArray, List.set_cons_zero, List.set_cons_succ]); go_big_quiet_on)
        | (refine quiet_ld (.agg #[.int .i64 1, .int .i64 0, .string tx]) ?_ ?_; (intro W hW; obtain ⟨k0, k1, k2, k3, k4, k5, k6, k7, k8⟩ := hW.cells; go_simp); (try simp only [Act.put, List.setIfInBounds_toArray, List.set_cons_zero, List.set_cons_succ]); go_big_quiet_on)
        | (go_big_quiet_op; go_big_quiet_on)
        | (go_big_quiet_op; refine ⟨_, fun _ _ => rfl, ?_⟩; go_big_quiet_on)
        | (go_big_quiet_op; refine ⟨_, fun W hW => (HB.out W).mono fun e w' ⟨he, hb⟩ => ⟨he, hW.step hb⟩, ?_⟩; go_big_quiet_on)))
  refine wpQuiet_nil ?_
  intro W2 hF2
  have HF2 := Aside0.mk hF2
  clear hF2
  go_wp2
  go_ret
  exact ⟨rfl, HF2.out.below⟩
set_option maxRecDepth 100000 in
set_option maxHeartbeats 8000000 in
theorem formed3_num (tn : Int) (tx : ByteArray) (ta tl tc : Int) (w : World) (hn : ¬ tn = 0) :
    Calls Tryz.prog 141 #[.agg #[.int .i64 3, .int .i64 tn, .string tx, .int .i64 ta, .int .i64 tl, .int .i64 tc]] w fun e w' => e = .returned (.bool false) ∧ Below w.heap.size w w' := by
  have HB : Aside0 (∀ W, Calls Tryz.prog 144 #[.agg #[.int .i64 3, .int .i64 tn, .string tx, .int .i64 ta, .int .i64 tl, .int .i64 tc]] W fun e w' => e = .returned (.agg #[.int .i64 3, .int .i64 tn, .string tx]) ∧ Below W.heap.size W w') := ⟨fun W => bare_any ⟨3, tn, tx, ta, tl, tc⟩ W⟩
  have hn1 : (tn == 0) = false := by rw [beq_eq_false_iff_ne]; exact hn
  have hF : Aside0 (FormAt w 3 tn tx ta tl tc 0 ((w.alloc (.cells #[.int .i64 3, .int .i64 tn, .string tx, .int .i64 ta, .int .i64 tl, .int .i64 tc] 54)).alloc (.cells #[.int .i64 3, .int .i64 0, .string tx] 184))) :=
    ⟨⟨heap_alloc (heap_new w _) _, heap_new' _ _ _ (by simp), ((Below.refl _ w).alloc (Nat.le_refl _) _).alloc (by simp) _⟩⟩
  go_enter Tryz.func141, Tryz.ntmps141
  go_wp2
  generalize ((w.alloc (.cells #[.int .i64 3, .int .i64 tn, .string tx, .int .i64 ta, .int .i64 tl, .int .i64 tc] 54)).alloc (.cells #[.int .i64 3, .int .i64 0, .string tx] 184)) = W1 at hF ⊢
  refine region_class (C := FormAt w 3 tn tx ta tl tc 0) (by kernel_rfl) (by kernel_rfl) hF.out.drew ?_
  repeat (first
    | go_big_quiet_skip
    | (go_big_quiet_want; first
        | (refine quiet_ld (.string tx) ?_ ?_; (intro W hW; obtain ⟨k0, k1, k2, k3, k4, k5, k6, k7, k8⟩ := hW.cells; go_simp); (try simp only [Act.put, List.setIfInBounds_toArray, List.set_cons_zero, List.set_cons_succ]); go_big_quiet_on)
        | (refine quiet_ld (.agg #[.int .i64 3, .int .i64 tn, .string tx, .int .i64 ta, .int .i64 tl, .int .i64 tc]) ?_ ?_; (intro W hW; obtain ⟨k0, k1, k2, k3, k4, k5, k6, k7, k8⟩ := hW.cells; go_simp); (try simp only [Act.put, List.setIfInBounds_toArray, List.set_cons_zero, List.set_cons_succ]); go_big_quiet_on)
        | (refine quiet_ld (.agg #[.int .i64 3, .int .i64 0, .string tx]) ?_ ?_; (intro W hW; obtain ⟨k0, k1, k2, k3, k4, k5, k6, k7, k8⟩ := hW.cells; go_simp); (try simp only [Act.put, List.setIfInBounds_toArray, List.set_cons_zero, List.set_cons_succ]); go_big_quiet_on)
        | (go_big_quiet_op; go_big_quiet_on)
        | (go_big_quiet_op; refine ⟨_, fun _ _ => rfl, ?_⟩; go_big_quiet_on)
        | (go_big_quiet_op; refine ⟨_, fun W hW => (HB.out W).mono fun e w' ⟨he, hb⟩ => ⟨he, hW.step hb⟩, ?_⟩; go_big_quiet_on)))
  refine wpQuiet_nil ?_
  intro W2 hF2
  have HF2 := Aside0.mk hF2
  clear hF2
  go_wp2
  go_ret
  exact ⟨rfl, HF2.out.below⟩
set_option maxRecDepth 100000 in
set_option maxHeartbeats 8000000 in
theorem formed4_num (tn : Int) (tx : ByteArray) (ta tl tc : Int) (w : World) (hn : ¬ tn = 0) :
    Calls Tryz.prog 141 #[.agg #[.int .i64 4, .int .i64 tn, .string tx, .int .i64 ta, .int .i64 tl, .int .i64 tc]] w fun e w' => e = .returned (.bool false) ∧ Below w.heap.size w w' := by
  have HB : Aside0 (∀ W, Calls Tryz.prog 144 #[.agg #[.int .i64 4, .int .i64 tn, .string tx, .int .i64 ta, .int .i64 tl, .int .i64 tc]] W fun e w' => e = .returned (.agg #[.int .i64 4, .int .i64 tn, .string tx]) ∧ Below W.heap.size W w') := ⟨fun W => bare_any ⟨4, tn, tx, ta, tl, tc⟩ W⟩
  have hn1 : (tn == 0) = false := by rw [beq_eq_false_iff_ne]; exact hn
  have hF : Aside0 (FormAt w 4 tn tx ta tl tc 0 ((w.alloc (.cells #[.int .i64 4, .int .i64 tn, .string tx, .int .i64 ta, .int .i64 tl, .int .i64 tc] 54)).alloc (.cells #[.int .i64 4, .int .i64 0, .string tx] 184))) :=
    ⟨⟨heap_alloc (heap_new w _) _, heap_new' _ _ _ (by simp), ((Below.refl _ w).alloc (Nat.le_refl _) _).alloc (by simp) _⟩⟩
  go_enter Tryz.func141, Tryz.ntmps141
  go_wp2
  generalize ((w.alloc (.cells #[.int .i64 4, .int .i64 tn, .string tx, .int .i64 ta, .int .i64 tl, .int .i64 tc] 54)).alloc (.cells #[.int .i64 4, .int .i64 0, .string tx] 184)) = W1 at hF ⊢
  refine region_class (C := FormAt w 4 tn tx ta tl tc 0) (by kernel_rfl) (by kernel_rfl) hF.out.drew ?_
  repeat (first
    | go_big_quiet_skip
    | (go_big_quiet_want; first
        | (refine quiet_ld (.string tx) ?_ ?_; (intro W hW; obtain ⟨k0, k1, k2, k3, k4, k5, k6, k7, k8⟩ := hW.cells; go_simp); (try simp only [Act.put, List.setIfInBounds_toArray, List.set_cons_zero, List.set_cons_succ]); go_big_quiet_on)
        | (refine quiet_ld (.agg #[.int .i64 4, .int .i64 tn, .string tx, .int .i64 ta, .int .i64 tl, .int .i64 tc]) ?_ ?_; (intro W hW; obtain ⟨k0, k1, k2, k3, k4, k5, k6, k7, k8⟩ := hW.cells; go_simp); (try simp only [Act.put, List.setIfInBounds_toArray, List.set_cons_zero, List.set_cons_succ]); go_big_quiet_on)
        | (refine quiet_ld (.agg #[.int .i64 4, .int .i64 0, .string tx]) ?_ ?_; (intro W hW; obtain ⟨k0, k1, k2, k3, k4, k5, k6, k7, k8⟩ := hW.cells; go_simp); (try simp only [Act.put, List.setIfInBounds_toArray, List.set_cons_zero, List.set_cons_succ]); go_big_quiet_on)
        | (go_big_quiet_op; go_big_quiet_on)
        | (go_big_quiet_op; refine ⟨_, fun _ _ => rfl, ?_⟩; go_big_quiet_on)
        | (go_big_quiet_op; refine ⟨_, fun W hW => (HB.out W).mono fun e w' ⟨he, hb⟩ => ⟨he, hW.step hb⟩, ?_⟩; go_big_quiet_on)))
  refine wpQuiet_nil ?_
  intro W2 hF2
  have HF2 := Aside0.mk hF2
  clear hF2
  go_wp2
  go_ret
  exact ⟨rfl, HF2.out.below⟩
set_option maxRecDepth 100000 in
set_option maxHeartbeats 8000000 in
theorem formed1_path (tx : ByteArray) (ta tl tc : Int) (w : World) (hs : tx.size ≤ 140737488351232) (hp : pathF tx = false) :
    Calls Tryz.prog 141 #[.agg #[.int .i64 1, .int .i64 0, .string tx, .int .i64 ta, .int .i64 tl, .int .i64 tc]] w fun e w' => e = .returned (.bool false) ∧ Below w.heap.size w w' := by
  have HB : Aside0 (∀ W, Calls Tryz.prog 144 #[.agg #[.int .i64 1, .int .i64 0, .string tx, .int .i64 ta, .int .i64 tl, .int .i64 tc]] W fun e w' => e = .returned (.agg #[.int .i64 1, .int .i64 0, .string tx]) ∧ Below W.heap.size W w') := ⟨fun W => bare_any ⟨1, 0, tx, ta, tl, tc⟩ W⟩
  have HPA : Aside0 (∀ W, Calls Tryz.prog 46 #[.string tx] W fun e w' => e = .returned (.bool false) ∧ W = w') := ⟨fun W => hp ▸ path_any tx W hs⟩
  have hF : Aside0 (FormAt w 1 0 tx ta tl tc 0 ((w.alloc (.cells #[.int .i64 1, .int .i64 0, .string tx, .int .i64 ta, .int .i64 tl, .int .i64 tc] 54)).alloc (.cells #[.int .i64 1, .int .i64 0, .string tx] 184))) :=
    ⟨⟨heap_alloc (heap_new w _) _, heap_new' _ _ _ (by simp), ((Below.refl _ w).alloc (Nat.le_refl _) _).alloc (by simp) _⟩⟩
  clear hp
  go_enter Tryz.func141, Tryz.ntmps141
  go_wp2
  generalize ((w.alloc (.cells #[.int .i64 1, .int .i64 0, .string tx, .int .i64 ta, .int .i64 tl, .int .i64 tc] 54)).alloc (.cells #[.int .i64 1, .int .i64 0, .string tx] 184)) = W1 at hF ⊢
  refine region_class (C := FormAt w 1 0 tx ta tl tc 0) (by kernel_rfl) (by kernel_rfl) hF.out.drew ?_
  repeat (first
    | go_big_quiet_skip
    | (go_big_quiet_want; first
        | (refine quiet_ld (.string tx) ?_ ?_; (intro W hW; obtain ⟨k0, k1, k2, k3, k4, k5, k6, k7, k8⟩ := hW.cells; go_simp); (try simp only [Act.put, List.setIfInBounds_toArray, List.set_cons_zero, List.set_cons_succ]); go_big_quiet_on)
        | (refine quiet_ld (.agg #[.int .i64 1, .int .i64 0, .string tx, .int .i64 ta, .int .i64 tl, .int .i64 tc]) ?_ ?_; (intro W hW; obtain ⟨k0, k1, k2, k3, k4, k5, k6, k7, k8⟩ := hW.cells; go_simp); (try simp only [Act.put, List.setIfInBounds_toArray, List.set_cons_zero, List.set_cons_succ]); go_big_quiet_on)
        | (refine quiet_ld (.agg #[.int .i64 1, .int .i64 0, .string tx]) ?_ ?_; (intro W hW; obtain ⟨k0, k1, k2, k3, k4, k5, k6, k7, k8⟩ := hW.cells; go_simp); (try simp only [Act.put, List.setIfInBounds_toArray, List.set_cons_zero, List.set_cons_succ]); go_big_quiet_on)
        | (go_big_quiet_op; go_big_quiet_on)
        | (go_big_quiet_op; refine ⟨_, fun _ _ => rfl, ?_⟩; go_big_quiet_on)
        | (go_big_quiet_op; refine ⟨_, fun W hW => (HB.out W).mono fun e w' ⟨he, hb⟩ => ⟨he, hW.step hb⟩, ?_⟩; go_big_quiet_on)
        | (go_big_quiet_op; refine ⟨_, fun W hW => (HPA.out W).mono fun e w' ⟨he, hb⟩ => ⟨he, hb ▸ hW⟩, ?_⟩; go_big_quiet_on)))
  refine wpQuiet_nil ?_
  intro W2 hF2
  have HF2 := Aside0.mk hF2
  clear hF2
  go_wp2
  go_ret
  exact ⟨rfl, HF2.out.below⟩
set_option maxRecDepth 100000 in
set_option maxHeartbeats 8000000 in
theorem formed1_kw (tx : ByteArray) (ta tl tc : Int) (w : World) (hs : tx.size ≤ 140737488351232) (hp : pathF tx = true) (hk : isKw tx = true) :
    Calls Tryz.prog 141 #[.agg #[.int .i64 1, .int .i64 0, .string tx, .int .i64 ta, .int .i64 tl, .int .i64 tc]] w fun e w' => e = .returned (.bool false) ∧ Below w.heap.size w w' := by
  have HB : Aside0 (∀ W, Calls Tryz.prog 144 #[.agg #[.int .i64 1, .int .i64 0, .string tx, .int .i64 ta, .int .i64 tl, .int .i64 tc]] W fun e w' => e = .returned (.agg #[.int .i64 1, .int .i64 0, .string tx]) ∧ Below W.heap.size W w') := ⟨fun W => bare_any ⟨1, 0, tx, ta, tl, tc⟩ W⟩
  have HPA : Aside0 (∀ W, Calls Tryz.prog 46 #[.string tx] W fun e w' => e = .returned (.bool true) ∧ W = w') := ⟨fun W => hp ▸ path_any tx W hs⟩
  have HKW : Aside0 (∀ W, Calls Tryz.prog 44 #[.string tx] W fun e w' => e = .returned (.bool true) ∧ Below W.heap.size W w') := ⟨fun W => hk ▸ keyword_any tx W⟩
  have hF : Aside0 (FormAt w 1 0 tx ta tl tc 0 ((w.alloc (.cells #[.int .i64 1, .int .i64 0, .string tx, .int .i64 ta, .int .i64 tl, .int .i64 tc] 54)).alloc (.cells #[.int .i64 1, .int .i64 0, .string tx] 184))) :=
    ⟨⟨heap_alloc (heap_new w _) _, heap_new' _ _ _ (by simp), ((Below.refl _ w).alloc (Nat.le_refl _) _).alloc (by simp) _⟩⟩
  clear hp hk
  go_enter Tryz.func141, Tryz.ntmps141
  go_wp2
  generalize ((w.alloc (.cells #[.int .i64 1, .int .i64 0, .string tx, .int .i64 ta, .int .i64 tl, .int .i64 tc] 54)).alloc (.cells #[.int .i64 1, .int .i64 0, .string tx] 184)) = W1 at hF ⊢
  refine region_class (C := FormAt w 1 0 tx ta tl tc 0) (by kernel_rfl) (by kernel_rfl) hF.out.drew ?_
  repeat (first
    | go_big_quiet_skip
    | (go_big_quiet_want; first
        | (refine quiet_ld (.string tx) ?_ ?_; (intro W hW; obtain ⟨k0, k1, k2, k3, k4, k5, k6, k7, k8⟩ := hW.cells; go_simp); (try simp only [Act.put, List.setIfInBounds_toArray, List.set_cons_zero, List.set_cons_succ]); go_big_quiet_on)
        | (refine quiet_ld (.agg #[.int .i64 1, .int .i64 0, .string tx, .int .i64 ta, .int .i64 tl, .int .i64 tc]) ?_ ?_; (intro W hW; obtain ⟨k0, k1, k2, k3, k4, k5, k6, k7, k8⟩ := hW.cells; go_simp); (try simp only [Act.put, List.setIfInBounds_toArray, List.set_cons_zero, List.set_cons_succ]); go_big_quiet_on)
        | (refine quiet_ld (.agg #[.int .i64 1, .int .i64 0, .string tx]) ?_ ?_; (intro W hW; obtain ⟨k0, k1, k2, k3, k4, k5, k6, k7, k8⟩ := hW.cells; go_simp); (try simp only [Act.put, List.setIfInBounds_toArray, List.set_cons_zero, List.set_cons_succ]); go_big_quiet_on)
        | (go_big_quiet_op; go_big_quiet_on)
        | (go_big_quiet_op; refine ⟨_, fun _ _ => rfl, ?_⟩; go_big_quiet_on)
        | (go_big_quiet_op; refine ⟨_, fun W hW => (HB.out W).mono fun e w' ⟨he, hb⟩ => ⟨he, hW.step hb⟩, ?_⟩; go_big_quiet_on)
        | (go_big_quiet_op; refine ⟨_, fun W hW => (HPA.out W).mono fun e w' ⟨he, hb⟩ => ⟨he, hb ▸ hW⟩, ?_⟩; go_big_quiet_on)
        | (go_big_quiet_op; refine ⟨_, fun W hW => (HKW.out W).mono fun e w' ⟨he, hb⟩ => ⟨he, hW.step hb⟩, ?_⟩; go_big_quiet_on)))
  refine wpQuiet_nil ?_
  intro W2 hF2
  have HF2 := Aside0.mk hF2
  clear hF2
  go_wp2
  go_ret
  exact ⟨rfl, HF2.out.below⟩
set_option maxRecDepth 100000 in
set_option maxHeartbeats 8000000 in
theorem formed4_kw (tx : ByteArray) (ta tl tc : Int) (w : World) (hk : isKw tx = false) :
    Calls Tryz.prog 141 #[.agg #[.int .i64 4, .int .i64 0, .string tx, .int .i64 ta, .int .i64 tl, .int .i64 tc]] w fun e w' => e = .returned (.bool false) ∧ Below w.heap.size w w' := by
  have HB : Aside0 (∀ W, Calls Tryz.prog 144 #[.agg #[.int .i64 4, .int .i64 0, .string tx, .int .i64 ta, .int .i64 tl, .int .i64 tc]] W fun e w' => e = .returned (.agg #[.int .i64 4, .int .i64 0, .string tx]) ∧ Below W.heap.size W w') := ⟨fun W => bare_any ⟨4, 0, tx, ta, tl, tc⟩ W⟩
  have HKW : Aside0 (∀ W, Calls Tryz.prog 44 #[.string tx] W fun e w' => e = .returned (.bool false) ∧ Below W.heap.size W w') := ⟨fun W => hk ▸ keyword_any tx W⟩
  have hF : Aside0 (FormAt w 4 0 tx ta tl tc 0 ((w.alloc (.cells #[.int .i64 4, .int .i64 0, .string tx, .int .i64 ta, .int .i64 tl, .int .i64 tc] 54)).alloc (.cells #[.int .i64 4, .int .i64 0, .string tx] 184))) :=
    ⟨⟨heap_alloc (heap_new w _) _, heap_new' _ _ _ (by simp), ((Below.refl _ w).alloc (Nat.le_refl _) _).alloc (by simp) _⟩⟩
  clear hk
  go_enter Tryz.func141, Tryz.ntmps141
  go_wp2
  generalize ((w.alloc (.cells #[.int .i64 4, .int .i64 0, .string tx, .int .i64 ta, .int .i64 tl, .int .i64 tc] 54)).alloc (.cells #[.int .i64 4, .int .i64 0, .string tx] 184)) = W1 at hF ⊢
  refine region_class (C := FormAt w 4 0 tx ta tl tc 0) (by kernel_rfl) (by kernel_rfl) hF.out.drew ?_
  repeat (first
    | go_big_quiet_skip
    | (go_big_quiet_want; first
        | (refine quiet_ld (.string tx) ?_ ?_; (intro W hW; obtain ⟨k0, k1, k2, k3, k4, k5, k6, k7, k8⟩ := hW.cells; go_simp); (try simp only [Act.put, List.setIfInBounds_toArray, List.set_cons_zero, List.set_cons_succ]); go_big_quiet_on)
        | (refine quiet_ld (.agg #[.int .i64 4, .int .i64 0, .string tx, .int .i64 ta, .int .i64 tl, .int .i64 tc]) ?_ ?_; (intro W hW; obtain ⟨k0, k1, k2, k3, k4, k5, k6, k7, k8⟩ := hW.cells; go_simp); (try simp only [Act.put, List.setIfInBounds_toArray, List.set_cons_zero, List.set_cons_succ]); go_big_quiet_on)
        | (refine quiet_ld (.agg #[.int .i64 4, .int .i64 0, .string tx]) ?_ ?_; (intro W hW; obtain ⟨k0, k1, k2, k3, k4, k5, k6, k7, k8⟩ := hW.cells; go_simp); (try simp only [Act.put, List.setIfInBounds_toArray, List.set_cons_zero, List.set_cons_succ]); go_big_quiet_on)
        | (go_big_quiet_op; go_big_quiet_on)
        | (go_big_quiet_op; refine ⟨_, fun _ _ => rfl, ?_⟩; go_big_quiet_on)
        | (go_big_quiet_op; refine ⟨_, fun W hW => (HB.out W).mono fun e w' ⟨he, hb⟩ => ⟨he, hW.step hb⟩, ?_⟩; go_big_quiet_on)
        | (go_big_quiet_op; refine ⟨_, fun W hW => (HKW.out W).mono fun e w' ⟨he, hb⟩ => ⟨he, hW.step hb⟩, ?_⟩; go_big_quiet_on)))
  refine wpQuiet_nil ?_
  intro W2 hF2
  have HF2 := Aside0.mk hF2
  clear hF2
  go_wp2
  go_ret
  exact ⟨rfl, HF2.out.below⟩
set_option maxRecDepth 100000 in
set_option maxHeartbeats 4000000 in
theorem formed3_sign (tx : ByteArray) (ta tl tc : Int) (w : World) (hp : among sgs tx = false) :
    Calls Tryz.prog 141 #[.agg #[.int .i64 3, .int .i64 0, .string tx, .int .i64 ta, .int .i64 tl, .int .i64 tc]] w fun e w' => e = .returned (.bool false) ∧ Below w.heap.size w w' := by
  have HB : Aside0 (∀ W, Calls Tryz.prog 144 #[.agg #[.int .i64 3, .int .i64 0, .string tx, .int .i64 ta, .int .i64 tl, .int .i64 tc]] W fun e w' => e = .returned (.agg #[.int .i64 3, .int .i64 0, .string tx]) ∧ Below W.heap.size W w') := ⟨fun W => bare_any ⟨3, 0, tx, ta, tl, tc⟩ W⟩
  have HSG : Aside0 (∀ W, Calls Tryz.prog 132 #[] W fun e w' => ∃ g, e = .returned (.slice (some ⟨g, 0, none⟩) 18 18) ∧ Aside0 (w'.heap[g]? = some (.cells (sgs.map Value.string).toArray 9)) ∧ Below W.heap.size W w') := ⟨fun W => (signs_any W).mono fun e w' ⟨he, hw⟩ => ⟨_, he, ⟨by rw [← hw]; exact heap_new W _⟩, by rw [← hw]; exact (Below.refl _ W).alloc (Nat.le_refl _) _⟩⟩
  have HCO : Aside0 (∀ (g : Nat) W, W.heap[g]? = some (.cells (sgs.map Value.string).toArray 9) → Calls Tryz.prog 32 #[.slice (some ⟨g, 0, none⟩) 18 18, .string tx] W fun e w' => e = .returned (.bool false) ∧ w' = W) := ⟨fun g W h => by
    have := contains_any sgs tx g 18 W (by decide) (fun k x hk => by rw [cell_of h k]; simp [hk])
    rw [hp] at this
    exact this⟩
  have hF : Aside0 (FormAt w 3 0 tx ta tl tc 0 ((w.alloc (.cells #[.int .i64 3, .int .i64 0, .string tx, .int .i64 ta, .int .i64 tl, .int .i64 tc] 54)).alloc (.cells #[.int .i64 3, .int .i64 0, .string tx] 184))) :=
    ⟨⟨heap_alloc (heap_new w _) _, heap_new' _ _ _ (by simp), ((Below.refl _ w).alloc (Nat.le_refl _) _).alloc (by simp) _⟩⟩
  clear hp
  · go_enter Tryz.func141, Tryz.ntmps141
    go_wp2
    generalize ((w.alloc (.cells #[.int .i64 3, .int .i64 0, .string tx, .int .i64 ta, .int .i64 tl, .int .i64 tc] 54)).alloc (.cells #[.int .i64 3, .int .i64 0, .string tx] 184)) = W1 at hF ⊢
    obtain ⟨g0, g1, g2, g3, g4, g5, h0, h1, h2⟩ := hF.out.cells
    have HF1 := Aside0.mk hF.out.drew
    go_region_held3 (fun W => W.cell? ⟨w.heap.size, 0, none⟩ = some (.int .i64 3) ∧ W.cell? ⟨w.heap.size, 1, none⟩ = some (.int .i64 0) ∧ W.cell? ⟨w.heap.size, 2, none⟩ = some (.string tx) ∧ W.cell? ⟨w.heap.size, 3, none⟩ = some (.int .i64 ta) ∧ W.cell? ⟨w.heap.size, 4, none⟩ = some (.int .i64 tl) ∧ W.cell? ⟨w.heap.size, 5, none⟩ = some (.int .i64 tc) ∧ W.cell? ⟨w.heap.size + 1, 0, none⟩ = some (.int .i64 3) ∧ W.cell? ⟨w.heap.size + 1, 1, none⟩ = some (.int .i64 0) ∧ W.cell? ⟨w.heap.size + 1, 2, none⟩ = some (.string tx) ∧ Aside0 (FormAt w 3 0 tx ta tl tc 0 W)) (go_keep) (first | (go_at_call 144; (with_reducible refine (HB.out _).mono ?_); rintro e w2 ⟨rfl, hb⟩; have hA : Aside0 (FormAt w 3 0 tx ta tl tc 0 w2) := ⟨FormAt.step (Aside0.out (by assumption)) hb⟩; obtain ⟨k0, k1, k2, k3, k4, k5, k6, k7, k8⟩ := hA.out.cells) | (go_at_call 132; (with_reducible refine (HSG.out _).mono ?_); rintro e w4 ⟨g, rfl, hg, hb⟩; have hA4 : Aside0 (FormAt w 3 0 tx ta tl tc 0 w4) := ⟨FormAt.step (Aside0.out (by assumption)) hb⟩; obtain ⟨m0, m1, m2, m3, m4, m5, m6, m7, m8⟩ := hA4.out.cells) | (go_at_call 32; (refine (HCO.out _ _ (Aside0.out (by assumption))).mono ?_); rintro e w3 ⟨rfl, rfl⟩))
    go_wp2
    go_ret
    exact ⟨rfl, (Aside0.out (by assumption) : FormAt w 3 0 tx ta tl tc 0 _).below⟩
set_option maxRecDepth 100000 in
set_option maxHeartbeats 8000000 in
theorem formed2_none (tn num : Int) (tx : ByteArray) (ta tl tc : Int) (w : World) (hs : tx.size ≤ 140737488351232) (hz : tx.toList = []) (hod : onlyD tx = ⟨#[]⟩) (hn : number ⟨#[]⟩ = num) :
    Calls Tryz.prog 141 #[.agg #[.int .i64 2, .int .i64 tn, .string tx, .int .i64 ta, .int .i64 tl, .int .i64 tc]] w fun e w' => e = .returned (.bool false) ∧ Below w.heap.size w w' := by
  have HB : Aside0 (∀ W, Calls Tryz.prog 144 #[.agg #[.int .i64 2, .int .i64 tn, .string tx, .int .i64 ta, .int .i64 tl, .int .i64 tc]] W fun e w' => e = .returned (.agg #[.int .i64 2, .int .i64 tn, .string tx]) ∧ Below W.heap.size W w') := ⟨fun W => bare_any ⟨2, tn, tx, ta, tl, tc⟩ W⟩
  have HOD : Aside0 (∀ W, Calls Tryz.prog 151 #[.string tx] W fun e w' => e = .returned (.string ⟨#[]⟩) ∧ W = w') := ⟨fun W => by have h9 := onlyDigits_any tx W hs; rwa [hod] at h9⟩
  have HNU : Aside0 (∀ W, Calls Tryz.prog 134 #[.string ⟨#[]⟩] W fun e w' => e = .returned (.int .i64 num) ∧ Below W.heap.size W w') := ⟨fun W => by have h9 := number_any ⟨#[]⟩ W (by decide) (fun i hi => absurd hi (by show ¬ i < 0; omega)); rwa [hn] at h9⟩
  have HF0 : Aside0 (FormAt w 2 tn tx ta tl tc 0 ((w.alloc (.cells #[.int .i64 2, .int .i64 tn, .string tx, .int .i64 ta, .int .i64 tl, .int .i64 tc] 54)).alloc (.cells #[.int .i64 2, .int .i64 0, .string tx] 184))) :=
    ⟨⟨heap_alloc (heap_new w _) _, heap_new' _ _ _ (by simp), ((Below.refl _ w).alloc (Nat.le_refl _) _).alloc (by simp) _⟩⟩
  have hz2 : tx.toList.isEmpty = true := by rw [hz]; rfl
  clear hod hn
  go_enter Tryz.func141, Tryz.ntmps141
  go_wp2_with (first | (go_at_call 151; (with_reducible refine (HOD.out _).mono ?_); rintro e w1 ⟨rfl, rfl⟩) | (go_at_call 134; (with_reducible refine (HNU.out _).mono ?_); rintro e w1 ⟨rfl, hb⟩; have hF1 := Aside0.mk (HF0.out.step hb); obtain ⟨k0, k1, k2, k3, k4, k5, k6, k7, k8⟩ := hF1.out.cells; have hf7 : w1.frozen? ⟨w.heap.size + 1, 1, none⟩ = false := free_of hF1.out.want 1; clear hb))
  have hF : Aside0 (FormAt w 2 tn tx ta tl tc num (w1.setCell ⟨w.heap.size + 1, 1, none⟩ (.int .i64 num))) := ⟨⟨(heap_set_other (by simp) _).trans hF1.out.box, heap_set hF1.out.want 1 _, hF1.out.below.setCell (by simp) _⟩⟩
  clear k0 k1 k2 k3 k4 k5 k6 k7 k8 hf7
  generalize (w1.setCell ⟨w.heap.size + 1, 1, none⟩ (.int .i64 num)) = W1 at hF ⊢
  refine region_class (C := FormAt w 2 tn tx ta tl tc num) (by kernel_rfl) (by kernel_rfl) hF.out.drew ?_
  repeat (first
    | go_big_quiet_skip
    | (go_big_quiet_want; first
        | (refine quiet_ld (.string tx) ?_ ?_; (intro W hW; obtain ⟨k0, k1, k2, k3, k4, k5, k6, k7, k8⟩ := hW.cells; go_simp); (try simp only [Act.put, List.setIfInBounds_toArray, List.set_cons_zero, List.set_cons_succ]); go_big_quiet_on)
        | (refine quiet_ld (.agg #[.int .i64 2, .int .i64 tn, .string tx, .int .i64 ta, .int .i64 tl, .int .i64 tc]) ?_ ?_; (intro W hW; obtain ⟨k0, k1, k2, k3, k4, k5, k6, k7, k8⟩ := hW.cells; go_simp); (try simp only [Act.put, List.setIfInBounds_toArray, List.set_cons_zero, List.set_cons_succ]); go_big_quiet_on)
        | (refine quiet_ld (.agg #[.int .i64 2, .int .i64 num, .string tx]) ?_ ?_; (intro W hW; obtain ⟨k0, k1, k2, k3, k4, k5, k6, k7, k8⟩ := hW.cells; go_simp); (try simp only [Act.put, List.setIfInBounds_toArray, List.set_cons_zero, List.set_cons_succ]); go_big_quiet_on)
        | (refine quiet_ld (.int .i64 num) ?_ ?_; (intro W hW; obtain ⟨k0, k1, k2, k3, k4, k5, k6, k7, k8⟩ := hW.cells; go_simp); (try simp only [Act.put, List.setIfInBounds_toArray, List.set_cons_zero, List.set_cons_succ]); go_big_quiet_on)
        | (go_big_quiet_op; go_big_quiet_on)
        | (go_big_quiet_op; refine ⟨_, fun _ _ => rfl, ?_⟩; go_big_quiet_on)
        | (go_big_quiet_op; refine ⟨_, fun W hW => (HOD.out W).mono fun e w' ⟨he, hb⟩ => ⟨he, hb ▸ hW⟩, ?_⟩; go_big_quiet_on)))
  refine wpQuiet_nil ?_
  intro W2 hF2
  have HF2 := Aside0.mk hF2
  clear hF2
  go_wp2
  go_ret
  exact ⟨rfl, HF2.out.below⟩
set_option maxRecDepth 100000 in
set_option maxHeartbeats 8000000 in
theorem formed2_other (tn num : Int) (tx : ByteArray) (ta tl tc : Int) (w : World) (hs : tx.size ≤ 140737488351232) (hz : 0 < tx.size) (hod : onlyD tx = ⟨#[]⟩) (hn : number ⟨#[]⟩ = num) :
    Calls Tryz.prog 141 #[.agg #[.int .i64 2, .int .i64 tn, .string tx, .int .i64 ta, .int .i64 tl, .int .i64 tc]] w fun e w' => e = .returned (.bool false) ∧ Below w.heap.size w w' := by
  have HB : Aside0 (∀ W, Calls Tryz.prog 144 #[.agg #[.int .i64 2, .int .i64 tn, .string tx, .int .i64 ta, .int .i64 tl, .int .i64 tc]] W fun e w' => e = .returned (.agg #[.int .i64 2, .int .i64 tn, .string tx]) ∧ Below W.heap.size W w') := ⟨fun W => bare_any ⟨2, tn, tx, ta, tl, tc⟩ W⟩
  have HOD : Aside0 (∀ W, Calls Tryz.prog 151 #[.string tx] W fun e w' => e = .returned (.string ⟨#[]⟩) ∧ W = w') := ⟨fun W => by have h9 := onlyDigits_any tx W hs; rwa [hod] at h9⟩
  have HNU : Aside0 (∀ W, Calls Tryz.prog 134 #[.string ⟨#[]⟩] W fun e w' => e = .returned (.int .i64 num) ∧ Below W.heap.size W w') := ⟨fun W => by have h9 := number_any ⟨#[]⟩ W (by decide) (fun i hi => absurd hi (by show ¬ i < 0; omega)); rwa [hn] at h9⟩
  have HF0 : Aside0 (FormAt w 2 tn tx ta tl tc 0 ((w.alloc (.cells #[.int .i64 2, .int .i64 tn, .string tx, .int .i64 ta, .int .i64 tl, .int .i64 tc] 54)).alloc (.cells #[.int .i64 2, .int .i64 0, .string tx] 184))) :=
    ⟨⟨heap_alloc (heap_new w _) _, heap_new' _ _ _ (by simp), ((Below.refl _ w).alloc (Nat.le_refl _) _).alloc (by simp) _⟩⟩
  have hne0 : ¬ tx.toList = [] := fun h => by have := toList_nil.1 h; omega
  have hz2 : tx.toList.isEmpty = false := by simpa [List.isEmpty_iff] using hne0
  have hz3 : ([] == tx.toList) = false := by rw [beq_eq_false_iff_ne]; exact fun h => hne0 h.symm
  have hz4 : (tx.toList == []) = false := by rw [beq_eq_false_iff_ne]; exact hne0
  clear hod hn hne0
  go_enter Tryz.func141, Tryz.ntmps141
  go_wp2_with (first | (go_at_call 151; (with_reducible refine (HOD.out _).mono ?_); rintro e w1 ⟨rfl, rfl⟩) | (go_at_call 134; (with_reducible refine (HNU.out _).mono ?_); rintro e w1 ⟨rfl, hb⟩; have hF1 := Aside0.mk (HF0.out.step hb); obtain ⟨k0, k1, k2, k3, k4, k5, k6, k7, k8⟩ := hF1.out.cells; have hf7 : w1.frozen? ⟨w.heap.size + 1, 1, none⟩ = false := free_of hF1.out.want 1; clear hb))
  have hF : Aside0 (FormAt w 2 tn tx ta tl tc num (w1.setCell ⟨w.heap.size + 1, 1, none⟩ (.int .i64 num))) := ⟨⟨(heap_set_other (by simp) _).trans hF1.out.box, heap_set hF1.out.want 1 _, hF1.out.below.setCell (by simp) _⟩⟩
  clear k0 k1 k2 k3 k4 k5 k6 k7 k8 hf7
  generalize (w1.setCell ⟨w.heap.size + 1, 1, none⟩ (.int .i64 num)) = W1 at hF ⊢
  refine region_class (C := FormAt w 2 tn tx ta tl tc num) (by kernel_rfl) (by kernel_rfl) hF.out.drew ?_
  repeat (first
    | go_big_quiet_skip
    | (go_big_quiet_want; first
        | (refine quiet_ld (.string tx) ?_ ?_; (intro W hW; obtain ⟨k0, k1, k2, k3, k4, k5, k6, k7, k8⟩ := hW.cells; go_simp); (try simp only [Act.put, List.setIfInBounds_toArray, List.set_cons_zero, List.set_cons_succ]); go_big_quiet_on)
        | (refine quiet_ld (.agg #[.int .i64 2, .int .i64 tn, .string tx, .int .i64 ta, .int .i64 tl, .int .i64 tc]) ?_ ?_; (intro W hW; obtain ⟨k0, k1, k2, k3, k4, k5, k6, k7, k8⟩ := hW.cells; go_simp); (try simp only [Act.put, List.setIfInBounds_toArray, List.set_cons_zero, List.set_cons_succ]); go_big_quiet_on)
        | (refine quiet_ld (.agg #[.int .i64 2, .int .i64 num, .string tx]) ?_ ?_; (intro W hW; obtain ⟨k0, k1, k2, k3, k4, k5, k6, k7, k8⟩ := hW.cells; go_simp); (try simp only [Act.put, List.setIfInBounds_toArray, List.set_cons_zero, List.set_cons_succ]); go_big_quiet_on)
        | (refine quiet_ld (.int .i64 num) ?_ ?_; (intro W hW; obtain ⟨k0, k1, k2, k3, k4, k5, k6, k7, k8⟩ := hW.cells; go_simp); (try simp only [Act.put, List.setIfInBounds_toArray, List.set_cons_zero, List.set_cons_succ]); go_big_quiet_on)
        | (go_big_quiet_op; go_big_quiet_on)
        | (go_big_quiet_op; refine ⟨_, fun _ _ => rfl, ?_⟩; go_big_quiet_on)
        | (go_big_quiet_op; refine ⟨_, fun W hW => (HOD.out W).mono fun e w' ⟨he, hb⟩ => ⟨he, hb ▸ hW⟩, ?_⟩; go_big_quiet_on)))
  refine wpQuiet_nil ?_
  intro W2 hF2
  have HF2 := Aside0.mk hF2
  clear hF2
  go_wp2
  go_ret
  exact ⟨rfl, HF2.out.below⟩
set_option maxRecDepth 100000 in
set_option maxHeartbeats 8000000 in
theorem formed2_big (tn num : Int) (tx : ByteArray) (ta tl tc : Int) (w : World) (hs : tx.size ≤ 140737488351232) (hz : 0 < tx.size) (hod : onlyD tx = tx) (had : allDigits tx) (hn : number tx = num) (hs2 : tx.size ≤ 20) (hb : 1073741824 < num) :
    Calls Tryz.prog 141 #[.agg #[.int .i64 2, .int .i64 tn, .string tx, .int .i64 ta, .int .i64 tl, .int .i64 tc]] w fun e w' => e = .returned (.bool false) ∧ Below w.heap.size w w' := by
  have HB : Aside0 (∀ W, Calls Tryz.prog 144 #[.agg #[.int .i64 2, .int .i64 tn, .string tx, .int .i64 ta, .int .i64 tl, .int .i64 tc]] W fun e w' => e = .returned (.agg #[.int .i64 2, .int .i64 tn, .string tx]) ∧ Below W.heap.size W w') := ⟨fun W => bare_any ⟨2, tn, tx, ta, tl, tc⟩ W⟩
  have HOD : Aside0 (∀ W, Calls Tryz.prog 151 #[.string tx] W fun e w' => e = .returned (.string tx) ∧ W = w') := ⟨fun W => by have h9 := onlyDigits_any tx W hs; rwa [hod] at h9⟩
  have HNU : Aside0 (∀ W, Calls Tryz.prog 134 #[.string tx] W fun e w' => e = .returned (.int .i64 num) ∧ Below W.heap.size W w') := ⟨fun W => by have h9 := number_any tx W (by omega) had; rwa [hn] at h9⟩
  have HF0 : Aside0 (FormAt w 2 tn tx ta tl tc 0 ((w.alloc (.cells #[.int .i64 2, .int .i64 tn, .string tx, .int .i64 ta, .int .i64 tl, .int .i64 tc] 54)).alloc (.cells #[.int .i64 2, .int .i64 0, .string tx] 184))) :=
    ⟨⟨heap_alloc (heap_new w _) _, heap_new' _ _ _ (by simp), ((Below.refl _ w).alloc (Nat.le_refl _) _).alloc (by simp) _⟩⟩
  have hne0 : ¬ tx.toList = [] := fun h => by have := toList_nil.1 h; omega
  have hz2 : tx.toList.isEmpty = false := by simpa [List.isEmpty_iff] using hne0
  have hz4 : (tx.toList == []) = false := by rw [beq_eq_false_iff_ne]; exact hne0
  clear hod hn hne0
  have hb2 : decide (num ≤ 1073741824) = false := by simp; omega
  go_enter Tryz.func141, Tryz.ntmps141
  go_wp2_with (first | (go_at_call 151; (with_reducible refine (HOD.out _).mono ?_); rintro e w1 ⟨rfl, rfl⟩) | (go_at_call 134; (with_reducible refine (HNU.out _).mono ?_); rintro e w1 ⟨rfl, hb⟩; have hF1 := Aside0.mk (HF0.out.step hb); obtain ⟨k0, k1, k2, k3, k4, k5, k6, k7, k8⟩ := hF1.out.cells; have hf7 : w1.frozen? ⟨w.heap.size + 1, 1, none⟩ = false := free_of hF1.out.want 1; clear hb))
  have hF : Aside0 (FormAt w 2 tn tx ta tl tc num (w1.setCell ⟨w.heap.size + 1, 1, none⟩ (.int .i64 num))) := ⟨⟨(heap_set_other (by simp) _).trans hF1.out.box, heap_set hF1.out.want 1 _, hF1.out.below.setCell (by simp) _⟩⟩
  clear k0 k1 k2 k3 k4 k5 k6 k7 k8 hf7
  generalize (w1.setCell ⟨w.heap.size + 1, 1, none⟩ (.int .i64 num)) = W1 at hF ⊢
  refine region_class (C := FormAt w 2 tn tx ta tl tc num) (by kernel_rfl) (by kernel_rfl) hF.out.drew ?_
  repeat (first
    | go_big_quiet_skip
    | (go_big_quiet_want; first
        | (refine quiet_ld (.string tx) ?_ ?_; (intro W hW; obtain ⟨k0, k1, k2, k3, k4, k5, k6, k7, k8⟩ := hW.cells; go_simp); (try simp only [Act.put, List.setIfInBounds_toArray, List.set_cons_zero, List.set_cons_succ]); go_big_quiet_on)
        | (refine quiet_ld (.agg #[.int .i64 2, .int .i64 tn, .string tx, .int .i64 ta, .int .i64 tl, .int .i64 tc]) ?_ ?_; (intro W hW; obtain ⟨k0, k1, k2, k3, k4, k5, k6, k7, k8⟩ := hW.cells; go_simp); (try simp only [Act.put, List.setIfInBounds_toArray, List.set_cons_zero, List.set_cons_succ]); go_big_quiet_on)
        | (refine quiet_ld (.agg #[.int .i64 2, .int .i64 num, .string tx]) ?_ ?_; (intro W hW; obtain ⟨k0, k1, k2, k3, k4, k5, k6, k7, k8⟩ := hW.cells; go_simp); (try simp only [Act.put, List.setIfInBounds_toArray, List.set_cons_zero, List.set_cons_succ]); go_big_quiet_on)
        | (refine quiet_ld (.int .i64 num) ?_ ?_; (intro W hW; obtain ⟨k0, k1, k2, k3, k4, k5, k6, k7, k8⟩ := hW.cells; go_simp); (try simp only [Act.put, List.setIfInBounds_toArray, List.set_cons_zero, List.set_cons_succ]); go_big_quiet_on)
        | (go_big_quiet_op; go_big_quiet_on)
        | (go_big_quiet_op; refine ⟨_, fun _ _ => rfl, ?_⟩; go_big_quiet_on)
        | (go_big_quiet_op; refine ⟨_, fun W hW => (HOD.out W).mono fun e w' ⟨he, hb⟩ => ⟨he, hb ▸ hW⟩, ?_⟩; go_big_quiet_on)))
  refine wpQuiet_nil ?_
  intro W2 hF2
  have HF2 := Aside0.mk hF2
  clear hF2
  go_wp2
  go_ret
  exact ⟨rfl, HF2.out.below⟩
set_option maxRecDepth 100000 in
set_option maxHeartbeats 8000000 in
theorem formed2_itoa (tn num : Int) (tx : ByteArray) (ta tl tc : Int) (w : World) (hs : tx.size ≤ 140737488351232) (hz : 0 < tx.size) (hod : onlyD tx = tx) (had : allDigits tx) (hn : number tx = num) (hs2 : tx.size ≤ 20) (h0 : 0 ≤ num) (hb : num ≤ 1073741824) (ht : Pow w) (hi : ¬ Lib.itoa num = tx.toList) :
    Calls Tryz.prog 141 #[.agg #[.int .i64 2, .int .i64 tn, .string tx, .int .i64 ta, .int .i64 tl, .int .i64 tc]] w fun e w' => e = .returned (.bool false) ∧ Below w.heap.size w w' := by
  have HB : Aside0 (∀ W, Calls Tryz.prog 144 #[.agg #[.int .i64 2, .int .i64 tn, .string tx, .int .i64 ta, .int .i64 tl, .int .i64 tc]] W fun e w' => e = .returned (.agg #[.int .i64 2, .int .i64 tn, .string tx]) ∧ Below W.heap.size W w') := ⟨fun W => bare_any ⟨2, tn, tx, ta, tl, tc⟩ W⟩
  have HOD : Aside0 (∀ W, Calls Tryz.prog 151 #[.string tx] W fun e w' => e = .returned (.string tx) ∧ W = w') := ⟨fun W => by have h9 := onlyDigits_any tx W hs; rwa [hod] at h9⟩
  have HNU : Aside0 (∀ W, Calls Tryz.prog 134 #[.string tx] W fun e w' => e = .returned (.int .i64 num) ∧ Below W.heap.size W w') := ⟨fun W => by have h9 := number_any tx W (by omega) had; rwa [hn] at h9⟩
  have HIT : Aside0 (∀ W, Pow W → Calls Tryz.prog 152 #[.int .i64 num] W fun e w' => e = .returned (.string ⟨(Lib.itoa num).toArray⟩) ∧ Below W.heap.size W w') := ⟨fun W hW => itoa_below num (by omega) (by omega) W hW⟩
  have HT := Aside0.mk ht
  clear ht
  have HF0 : Aside0 (FormAt w 2 tn tx ta tl tc 0 ((w.alloc (.cells #[.int .i64 2, .int .i64 tn, .string tx, .int .i64 ta, .int .i64 tl, .int .i64 tc] 54)).alloc (.cells #[.int .i64 2, .int .i64 0, .string tx] 184))) :=
    ⟨⟨heap_alloc (heap_new w _) _, heap_new' _ _ _ (by simp), ((Below.refl _ w).alloc (Nat.le_refl _) _).alloc (by simp) _⟩⟩
  have hne0 : ¬ tx.toList = [] := fun h => by have := toList_nil.1 h; omega
  have hz2 : tx.toList.isEmpty = false := by simpa [List.isEmpty_iff] using hne0
  have hz4 : (tx.toList == []) = false := by rw [beq_eq_false_iff_ne]; exact hne0
  clear hod hn hne0
  have hb2 : decide (num ≤ 1073741824) = true := by simp; omega
  have hi2 : (Lib.itoa num == tx.toList) = false := by rw [beq_eq_false_iff_ne]; exact hi
  go_enter Tryz.func141, Tryz.ntmps141
  go_wp2_with (first | (go_at_call 151; (with_reducible refine (HOD.out _).mono ?_); rintro e w1 ⟨rfl, rfl⟩) | (go_at_call 134; (with_reducible refine (HNU.out _).mono ?_); rintro e w1 ⟨rfl, hb⟩; have hF1 := Aside0.mk (HF0.out.step hb); obtain ⟨k0, k1, k2, k3, k4, k5, k6, k7, k8⟩ := hF1.out.cells; have hf7 : w1.frozen? ⟨w.heap.size + 1, 1, none⟩ = false := free_of hF1.out.want 1; clear hb))
  have hF : Aside0 (FormAt w 2 tn tx ta tl tc num (w1.setCell ⟨w.heap.size + 1, 1, none⟩ (.int .i64 num))) := ⟨⟨(heap_set_other (by simp) _).trans hF1.out.box, heap_set hF1.out.want 1 _, hF1.out.below.setCell (by simp) _⟩⟩
  clear k0 k1 k2 k3 k4 k5 k6 k7 k8 hf7
  generalize (w1.setCell ⟨w.heap.size + 1, 1, none⟩ (.int .i64 num)) = W1 at hF ⊢
  refine region_class (C := FormAt w 2 tn tx ta tl tc num) (by kernel_rfl) (by kernel_rfl) hF.out.drew ?_
  repeat (first
    | go_big_quiet_skip
    | (go_big_quiet_want; first
        | (refine quiet_ld (.string tx) ?_ ?_; (intro W hW; obtain ⟨k0, k1, k2, k3, k4, k5, k6, k7, k8⟩ := hW.cells; go_simp); (try simp only [Act.put, List.setIfInBounds_toArray, List.set_cons_zero, List.set_cons_succ]); go_big_quiet_on)
        | (refine quiet_ld (.agg #[.int .i64 2, .int .i64 tn, .string tx, .int .i64 ta, .int .i64 tl, .int .i64 tc]) ?_ ?_; (intro W hW; obtain ⟨k0, k1, k2, k3, k4, k5, k6, k7, k8⟩ := hW.cells; go_simp); (try simp only [Act.put, List.setIfInBounds_toArray, List.set_cons_zero, List.set_cons_succ]); go_big_quiet_on)
        | (refine quiet_ld (.agg #[.int .i64 2, .int .i64 num, .string tx]) ?_ ?_; (intro W hW; obtain ⟨k0, k1, k2, k3, k4, k5, k6, k7, k8⟩ := hW.cells; go_simp); (try simp only [Act.put, List.setIfInBounds_toArray, List.set_cons_zero, List.set_cons_succ]); go_big_quiet_on)
        | (refine quiet_ld (.int .i64 num) ?_ ?_; (intro W hW; obtain ⟨k0, k1, k2, k3, k4, k5, k6, k7, k8⟩ := hW.cells; go_simp); (try simp only [Act.put, List.setIfInBounds_toArray, List.set_cons_zero, List.set_cons_succ]); go_big_quiet_on)
        | (go_big_quiet_op; go_big_quiet_on)
        | (go_big_quiet_op; refine ⟨_, fun _ _ => rfl, ?_⟩; go_big_quiet_on)
        | (go_big_quiet_op; refine ⟨_, fun W hW => (HOD.out W).mono fun e w' ⟨he, hb⟩ => ⟨he, hb ▸ hW⟩, ?_⟩; go_big_quiet_on)
        | (go_big_quiet_op; refine ⟨_, fun W hW => (HIT.out W (Pow.on HT.out hW.below)).mono fun e w' ⟨he, hb⟩ => ⟨he, hW.step hb⟩, ?_⟩; go_big_quiet_on)))
  refine wpQuiet_nil ?_
  intro W2 hF2
  have HF2 := Aside0.mk hF2
  clear hF2
  go_wp2
  go_ret
  exact ⟨rfl, HF2.out.below⟩
set_option maxRecDepth 100000 in
set_option maxHeartbeats 8000000 in
theorem formed2_num (tn num : Int) (tx : ByteArray) (ta tl tc : Int) (w : World) (hs : tx.size ≤ 140737488351232) (hz : 0 < tx.size) (hod : onlyD tx = tx) (had : allDigits tx) (hn : number tx = num) (hs2 : tx.size ≤ 20) (h0 : 0 ≤ num) (hb : num ≤ 1073741824) (ht : Pow w) (hi : Lib.itoa num = tx.toList) (hne : ¬ tn = num) :
    Calls Tryz.prog 141 #[.agg #[.int .i64 2, .int .i64 tn, .string tx, .int .i64 ta, .int .i64 tl, .int .i64 tc]] w fun e w' => e = .returned (.bool false) ∧ Below w.heap.size w w' := by
  have HB : Aside0 (∀ W, Calls Tryz.prog 144 #[.agg #[.int .i64 2, .int .i64 tn, .string tx, .int .i64 ta, .int .i64 tl, .int .i64 tc]] W fun e w' => e = .returned (.agg #[.int .i64 2, .int .i64 tn, .string tx]) ∧ Below W.heap.size W w') := ⟨fun W => bare_any ⟨2, tn, tx, ta, tl, tc⟩ W⟩
  have HOD : Aside0 (∀ W, Calls Tryz.prog 151 #[.string tx] W fun e w' => e = .returned (.string tx) ∧ W = w') := ⟨fun W => by have h9 := onlyDigits_any tx W hs; rwa [hod] at h9⟩
  have HNU : Aside0 (∀ W, Calls Tryz.prog 134 #[.string tx] W fun e w' => e = .returned (.int .i64 num) ∧ Below W.heap.size W w') := ⟨fun W => by have h9 := number_any tx W (by omega) had; rwa [hn] at h9⟩
  have HIT : Aside0 (∀ W, Pow W → Calls Tryz.prog 152 #[.int .i64 num] W fun e w' => e = .returned (.string ⟨(Lib.itoa num).toArray⟩) ∧ Below W.heap.size W w') := ⟨fun W hW => itoa_below num (by omega) (by omega) W hW⟩
  have HT := Aside0.mk ht
  clear ht
  have HF0 : Aside0 (FormAt w 2 tn tx ta tl tc 0 ((w.alloc (.cells #[.int .i64 2, .int .i64 tn, .string tx, .int .i64 ta, .int .i64 tl, .int .i64 tc] 54)).alloc (.cells #[.int .i64 2, .int .i64 0, .string tx] 184))) :=
    ⟨⟨heap_alloc (heap_new w _) _, heap_new' _ _ _ (by simp), ((Below.refl _ w).alloc (Nat.le_refl _) _).alloc (by simp) _⟩⟩
  have hne0 : ¬ tx.toList = [] := fun h => by have := toList_nil.1 h; omega
  have hz2 : tx.toList.isEmpty = false := by simpa [List.isEmpty_iff] using hne0
  have hz4 : (tx.toList == []) = false := by rw [beq_eq_false_iff_ne]; exact hne0
  clear hod hn hne0
  have hb2 : decide (num ≤ 1073741824) = true := by simp; omega
  have hn3 : (tn == num) = false := by rw [beq_eq_false_iff_ne]; exact hne
  go_enter Tryz.func141, Tryz.ntmps141
  go_wp2_with (first | (go_at_call 151; (with_reducible refine (HOD.out _).mono ?_); rintro e w1 ⟨rfl, rfl⟩) | (go_at_call 134; (with_reducible refine (HNU.out _).mono ?_); rintro e w1 ⟨rfl, hb⟩; have hF1 := Aside0.mk (HF0.out.step hb); obtain ⟨k0, k1, k2, k3, k4, k5, k6, k7, k8⟩ := hF1.out.cells; have hf7 : w1.frozen? ⟨w.heap.size + 1, 1, none⟩ = false := free_of hF1.out.want 1; clear hb))
  have hF : Aside0 (FormAt w 2 tn tx ta tl tc num (w1.setCell ⟨w.heap.size + 1, 1, none⟩ (.int .i64 num))) := ⟨⟨(heap_set_other (by simp) _).trans hF1.out.box, heap_set hF1.out.want 1 _, hF1.out.below.setCell (by simp) _⟩⟩
  clear k0 k1 k2 k3 k4 k5 k6 k7 k8 hf7
  generalize (w1.setCell ⟨w.heap.size + 1, 1, none⟩ (.int .i64 num)) = W1 at hF ⊢
  refine region_class (C := FormAt w 2 tn tx ta tl tc num) (by kernel_rfl) (by kernel_rfl) hF.out.drew ?_
  repeat (first
    | go_big_quiet_skip
    | (go_big_quiet_want; first
        | (refine quiet_ld (.string tx) ?_ ?_; (intro W hW; obtain ⟨k0, k1, k2, k3, k4, k5, k6, k7, k8⟩ := hW.cells; go_simp); (try simp only [Act.put, List.setIfInBounds_toArray, List.set_cons_zero, List.set_cons_succ]); go_big_quiet_on)
        | (refine quiet_ld (.agg #[.int .i64 2, .int .i64 tn, .string tx, .int .i64 ta, .int .i64 tl, .int .i64 tc]) ?_ ?_; (intro W hW; obtain ⟨k0, k1, k2, k3, k4, k5, k6, k7, k8⟩ := hW.cells; go_simp); (try simp only [Act.put, List.setIfInBounds_toArray, List.set_cons_zero, List.set_cons_succ]); go_big_quiet_on)
        | (refine quiet_ld (.agg #[.int .i64 2, .int .i64 num, .string tx]) ?_ ?_; (intro W hW; obtain ⟨k0, k1, k2, k3, k4, k5, k6, k7, k8⟩ := hW.cells; go_simp); (try simp only [Act.put, List.setIfInBounds_toArray, List.set_cons_zero, List.set_cons_succ]); go_big_quiet_on)
        | (refine quiet_ld (.int .i64 num) ?_ ?_; (intro W hW; obtain ⟨k0, k1, k2, k3, k4, k5, k6, k7, k8⟩ := hW.cells; go_simp); (try simp only [Act.put, List.setIfInBounds_toArray, List.set_cons_zero, List.set_cons_succ]); go_big_quiet_on)
        | (go_big_quiet_op; go_big_quiet_on)
        | (go_big_quiet_op; refine ⟨_, fun _ _ => rfl, ?_⟩; go_big_quiet_on)
        | (go_big_quiet_op; refine ⟨_, fun W hW => (HOD.out W).mono fun e w' ⟨he, hb⟩ => ⟨he, hb ▸ hW⟩, ?_⟩; go_big_quiet_on)
        | (go_big_quiet_op; refine ⟨_, fun W hW => (HIT.out W (Pow.on HT.out hW.below)).mono fun e w' ⟨he, hb⟩ => ⟨he, hW.step hb⟩, ?_⟩; go_big_quiet_on)
        | (go_big_quiet_op; refine ⟨_, fun W hW => (HB.out W).mono fun e w' ⟨he, hb⟩ => ⟨he, hW.step hb⟩, ?_⟩; go_big_quiet_on)))
  refine wpQuiet_nil ?_
  intro W2 hF2
  have HF2 := Aside0.mk hF2
  clear hF2
  go_wp2
  go_ret
  exact ⟨rfl, HF2.out.below⟩
theorem formed_bad (t : Tok) (w : World) (ht : Pow w) (hs : t.text.size ≤ 65536) (hk1 : 1 ≤ t.kind) (hk4 : t.kind ≤ 4) (h : ¬ WfT t) : Calls Tryz.prog 141 #[.agg t.cells] w fun e w' => e = .returned (.bool false) ∧ Below w.heap.size w w' := by
  obtain ⟨tk, tn, tx, ta, tl, tc⟩ := t
  simp only [WfT] at h hs hk1 hk4
  simp only [Tok.cells]
  have hs2 : tx.size ≤ 140737488351232 := by omega
  rcases (show tk = 1 ∨ tk = 2 ∨ tk = 3 ∨ tk = 4 by omega) with rfl | rfl | rfl | rfl
  · by_cases hn : tn = 0
    · subst hn
      cases hp : pathF tx with
      | false => exact formed1_path tx ta tl tc w hs2 hp
      | true =>
        cases hk : isKw tx with
        | true => exact formed1_kw tx ta tl tc w hs2 hp hk
        | false => exact absurd (.inl ⟨rfl, rfl, hp, hk⟩) h
    · exact formed1_num tn tx ta tl tc w hn
  · by_cases hz : tx.size = 0
    · exact formed2_none tn _ tx ta tl tc w hs2 (toList_nil.2 hz) (by
        unfold onlyD
        split
        · exact ByteArray.ext (Array.eq_empty_of_size_eq_zero hz)
        · rfl) rfl
    · by_cases hd : run isDigit tx 0 = tx.size ∧ tx.size ≤ 20
      · have hod : onlyD tx = tx := by unfold onlyD; rw [if_pos hd]
        have had := allDigits_of_run hd.1
        have hn0 := (number_le tx had).1
        by_cases hb : 1073741824 < number tx
        · exact formed2_big tn _ tx ta tl tc w hs2 (by omega) hod had rfl hd.2 hb
        · by_cases hi : Lib.itoa (number tx) = tx.toList
          · by_cases hn : tn = number tx
            · refine absurd (.inr (.inl ⟨rfl, hd.2, hd.1, by omega, hn.symm, by omega, by omega, ?_⟩)) h
              rw [hn, hi, ByteArray.toList_eq]
            · exact formed2_num tn _ tx ta tl tc w hs2 (by omega) hod had rfl hd.2 hn0 (by omega) ht hi hn
          · exact formed2_itoa tn _ tx ta tl tc w hs2 (by omega) hod had rfl hd.2 hn0 (by omega) ht hi
      · exact formed2_other tn _ tx ta tl tc w hs2 (by omega) (by unfold onlyD; rw [if_neg hd]) rfl
  · by_cases hn : tn = 0
    · subst hn
      cases hp : among sgs tx with
      | false => exact formed3_sign tx ta tl tc w hp
      | true => exact absurd (.inr (.inr (.inl ⟨rfl, rfl, hp⟩))) h
    · exact formed3_num tn tx ta tl tc w hn
  · by_cases hn : tn = 0
    · subst hn
      cases hk : isKw tx with
      | false => exact formed4_kw tx ta tl tc w hk
      | true => exact absurd (.inr (.inr (.inr ⟨rfl, rfl, hk⟩))) h
    · exact formed4_num tn tx ta tl tc w hn
end Go.Proofs.YtfnhjdehlikbaaaGreatDoor.Lx
namespace Go.Proofs.YtfnhjdehlikbaaaGreatDoor.Lx
open Go.RowKit Go.Proofs.YtfnhjdehlikbaaaGreatDoorW.PrintWords
theorem farF_false {n : Int} (h0 : 0 ≤ n) (h1 : n ≤ 65536) : farF n = false := by simp [farF]; omega
set_option maxRecDepth 100000 in
set_option maxHeartbeats 4000000 in
theorem tokErr_k1 (tk tn : Int) (tx : ByteArray) (ta tl tc bk bn : Int) (bx : ByteArray) (ba bl bc : Int) (w : World) (h : tk < 1) :
    Calls Tryz.prog 106 #[.agg #[.int .i64 tk, .int .i64 tn, .string tx, .int .i64 ta, .int .i64 tl, .int .i64 tc], .agg #[.int .i64 bk, .int .i64 bn, .string bx, .int .i64 ba, .int .i64 bl, .int .i64 bc]] w fun e w' => e = .returned (.int .i64 3) ∧ Below w.heap.size w w' := by
  have HB0 : Aside0 (Below w.heap.size w ((w.alloc (.cells #[.int .i64 tk, .int .i64 tn, .string tx, .int .i64 ta, .int .i64 tl, .int .i64 tc] 54)).alloc (.cells #[.int .i64 bk, .int .i64 bn, .string bx, .int .i64 ba, .int .i64 bl, .int .i64 bc] 54))) := ⟨((Below.refl _ w).alloc (Nat.le_refl _) _).alloc (by simp) _⟩
  have n1 : decide (tk < 1) = true := by simp; omega
  go_enter Tryz.func106, Tryz.ntmps106
  go_wp2
  go_ret
  exact ⟨rfl, HB0.out⟩
set_option maxRecDepth 100000 in
set_option maxHeartbeats 4000000 in
theorem tokErr_k4 (tk tn : Int) (tx : ByteArray) (ta tl tc bk bn : Int) (bx : ByteArray) (ba bl bc : Int) (w : World) (h0 : 1 ≤ tk) (h : 4 < tk) :
    Calls Tryz.prog 106 #[.agg #[.int .i64 tk, .int .i64 tn, .string tx, .int .i64 ta, .int .i64 tl, .int .i64 tc], .agg #[.int .i64 bk, .int .i64 bn, .string bx, .int .i64 ba, .int .i64 bl, .int .i64 bc]] w fun e w' => e = .returned (.int .i64 3) ∧ Below w.heap.size w w' := by
  have HB0 : Aside0 (Below w.heap.size w ((w.alloc (.cells #[.int .i64 tk, .int .i64 tn, .string tx, .int .i64 ta, .int .i64 tl, .int .i64 tc] 54)).alloc (.cells #[.int .i64 bk, .int .i64 bn, .string bx, .int .i64 ba, .int .i64 bl, .int .i64 bc] 54))) := ⟨((Below.refl _ w).alloc (Nat.le_refl _) _).alloc (by simp) _⟩
  have n1 : decide (tk < 1) = false := by simp; omega
  have n2 : decide (tk > 4) = true := by simp; omega
  go_enter Tryz.func106, Tryz.ntmps106
  go_wp2
  go_ret
  exact ⟨rfl, HB0.out⟩
set_option maxRecDepth 100000 in
set_option maxHeartbeats 4000000 in
theorem tokErr_at (tk tn : Int) (tx : ByteArray) (ta tl tc bk bn : Int) (bx : ByteArray) (ba bl bc : Int) (w : World) (h0 : 1 ≤ tk) (h : tk ≤ 4) (h1 : farF ta = true) :
    Calls Tryz.prog 106 #[.agg #[.int .i64 tk, .int .i64 tn, .string tx, .int .i64 ta, .int .i64 tl, .int .i64 tc], .agg #[.int .i64 bk, .int .i64 bn, .string bx, .int .i64 ba, .int .i64 bl, .int .i64 bc]] w fun e w' => e = .returned (.int .i64 3) ∧ Below w.heap.size w w' := by
  have HB0 : Aside0 (Below w.heap.size w ((w.alloc (.cells #[.int .i64 tk, .int .i64 tn, .string tx, .int .i64 ta, .int .i64 tl, .int .i64 tc] 54)).alloc (.cells #[.int .i64 bk, .int .i64 bn, .string bx, .int .i64 ba, .int .i64 bl, .int .i64 bc] 54))) := ⟨((Below.refl _ w).alloc (Nat.le_refl _) _).alloc (by simp) _⟩
  have n1 : decide (tk < 1) = false := by simp; omega
  have n2 : decide (tk > 4) = false := by simp; omega
  have HA : Aside0 (∀ W, Calls Tryz.prog 140 #[.int .i64 ta] W fun e w' => e = .returned (.bool true) ∧ W = w') := ⟨fun W => by have h9 := far_any ta W; rwa [show farF ta = true from by assumption] at h9⟩
  go_enter Tryz.func106, Tryz.ntmps106
  go_wp2_with (first | (go_at_call 140; (with_reducible refine (HA.out _).mono ?_); rintro e w1 ⟨rfl, rfl⟩))
  go_ret
  exact ⟨rfl, HB0.out⟩
set_option maxRecDepth 100000 in
set_option maxHeartbeats 4000000 in
theorem tokErr_line (tk tn : Int) (tx : ByteArray) (ta tl tc bk bn : Int) (bx : ByteArray) (ba bl bc : Int) (w : World) (h0 : 1 ≤ tk) (h : tk ≤ 4) (h1 : farF ta = false) (h2 : farF tl = true) :
    Calls Tryz.prog 106 #[.agg #[.int .i64 tk, .int .i64 tn, .string tx, .int .i64 ta, .int .i64 tl, .int .i64 tc], .agg #[.int .i64 bk, .int .i64 bn, .string bx, .int .i64 ba, .int .i64 bl, .int .i64 bc]] w fun e w' => e = .returned (.int .i64 3) ∧ Below w.heap.size w w' := by
  have HB0 : Aside0 (Below w.heap.size w ((w.alloc (.cells #[.int .i64 tk, .int .i64 tn, .string tx, .int .i64 ta, .int .i64 tl, .int .i64 tc] 54)).alloc (.cells #[.int .i64 bk, .int .i64 bn, .string bx, .int .i64 ba, .int .i64 bl, .int .i64 bc] 54))) := ⟨((Below.refl _ w).alloc (Nat.le_refl _) _).alloc (by simp) _⟩
  have n1 : decide (tk < 1) = false := by simp; omega
  have n2 : decide (tk > 4) = false := by simp; omega
  have HA : Aside0 (∀ W, Calls Tryz.prog 140 #[.int .i64 ta] W fun e w' => e = .returned (.bool false) ∧ W = w') := ⟨fun W => by have h9 := far_any ta W; rwa [show farF ta = false from by assumption] at h9⟩
  have HL : Aside0 (∀ W, Calls Tryz.prog 140 #[.int .i64 tl] W fun e w' => e = .returned (.bool true) ∧ W = w') := ⟨fun W => by have h9 := far_any tl W; rwa [show farF tl = true from by assumption] at h9⟩
  go_enter Tryz.func106, Tryz.ntmps106
  go_wp2_with (first | (go_at_call 140; (with_reducible refine (HA.out _).mono ?_); rintro e w1 ⟨rfl, rfl⟩) | (go_at_call 140; (with_reducible refine (HL.out _).mono ?_); rintro e w1 ⟨rfl, rfl⟩))
  go_ret
  exact ⟨rfl, HB0.out⟩
set_option maxRecDepth 100000 in
set_option maxHeartbeats 4000000 in
theorem tokErr_col (tk tn : Int) (tx : ByteArray) (ta tl tc bk bn : Int) (bx : ByteArray) (ba bl bc : Int) (w : World) (h0 : 1 ≤ tk) (h : tk ≤ 4) (h1 : farF ta = false) (h2 : farF tl = false) (h3 : farF tc = true) :
    Calls Tryz.prog 106 #[.agg #[.int .i64 tk, .int .i64 tn, .string tx, .int .i64 ta, .int .i64 tl, .int .i64 tc], .agg #[.int .i64 bk, .int .i64 bn, .string bx, .int .i64 ba, .int .i64 bl, .int .i64 bc]] w fun e w' => e = .returned (.int .i64 3) ∧ Below w.heap.size w w' := by
  have HB0 : Aside0 (Below w.heap.size w ((w.alloc (.cells #[.int .i64 tk, .int .i64 tn, .string tx, .int .i64 ta, .int .i64 tl, .int .i64 tc] 54)).alloc (.cells #[.int .i64 bk, .int .i64 bn, .string bx, .int .i64 ba, .int .i64 bl, .int .i64 bc] 54))) := ⟨((Below.refl _ w).alloc (Nat.le_refl _) _).alloc (by simp) _⟩
  have n1 : decide (tk < 1) = false := by simp; omega
  have n2 : decide (tk > 4) = false := by simp; omega
  have HA : Aside0 (∀ W, Calls Tryz.prog 140 #[.int .i64 ta] W fun e w' => e = .returned (.bool false) ∧ W = w') := ⟨fun W => by have h9 := far_any ta W; rwa [show farF ta = false from by assumption] at h9⟩
  have HL : Aside0 (∀ W, Calls Tryz.prog 140 #[.int .i64 tl] W fun e w' => e = .returned (.bool false) ∧ W = w') := ⟨fun W => by have h9 := far_any tl W; rwa [show farF tl = false from by assumption] at h9⟩
  have HC : Aside0 (∀ W, Calls Tryz.prog 140 #[.int .i64 tc] W fun e w' => e = .returned (.bool true) ∧ W = w') := ⟨fun W => by have h9 := far_any tc W; rwa [show farF tc = true from by assumption] at h9⟩
  go_enter Tryz.func106, Tryz.ntmps106
  go_wp2_with (first | (go_at_call 140; (with_reducible refine (HA.out _).mono ?_); rintro e w1 ⟨rfl, rfl⟩) | (go_at_call 140; (with_reducible refine (HL.out _).mono ?_); rintro e w1 ⟨rfl, rfl⟩) | (go_at_call 140; (with_reducible refine (HC.out _).mono ?_); rintro e w1 ⟨rfl, rfl⟩))
  go_ret
  exact ⟨rfl, HB0.out⟩
set_option maxRecDepth 100000 in
set_option maxHeartbeats 4000000 in
theorem tokErr_form (tk tn : Int) (tx : ByteArray) (ta tl tc bk bn : Int) (bx : ByteArray) (ba bl bc : Int) (w : World) (h0 : 1 ≤ tk) (h : tk ≤ 4) (h1 : farF ta = false) (h2 : farF tl = false) (h3 : farF tc = false) (ht : Pow w) (HFO : Aside0 (∀ W, Pow W → Calls Tryz.prog 141 #[.agg #[.int .i64 tk, .int .i64 tn, .string tx, .int .i64 ta, .int .i64 tl, .int .i64 tc]] W fun e w' => e = .returned (.bool false) ∧ Below W.heap.size W w')) :
    Calls Tryz.prog 106 #[.agg #[.int .i64 tk, .int .i64 tn, .string tx, .int .i64 ta, .int .i64 tl, .int .i64 tc], .agg #[.int .i64 bk, .int .i64 bn, .string bx, .int .i64 ba, .int .i64 bl, .int .i64 bc]] w fun e w' => e = .returned (.int .i64 4) ∧ Below w.heap.size w w' := by
  have HB0 : Aside0 (Below w.heap.size w ((w.alloc (.cells #[.int .i64 tk, .int .i64 tn, .string tx, .int .i64 ta, .int .i64 tl, .int .i64 tc] 54)).alloc (.cells #[.int .i64 bk, .int .i64 bn, .string bx, .int .i64 ba, .int .i64 bl, .int .i64 bc] 54))) := ⟨((Below.refl _ w).alloc (Nat.le_refl _) _).alloc (by simp) _⟩
  have n1 : decide (tk < 1) = false := by simp; omega
  have n2 : decide (tk > 4) = false := by simp; omega
  have HA : Aside0 (∀ W, Calls Tryz.prog 140 #[.int .i64 ta] W fun e w' => e = .returned (.bool false) ∧ W = w') := ⟨fun W => by have h9 := far_any ta W; rwa [show farF ta = false from by assumption] at h9⟩
  have HL : Aside0 (∀ W, Calls Tryz.prog 140 #[.int .i64 tl] W fun e w' => e = .returned (.bool false) ∧ W = w') := ⟨fun W => by have h9 := far_any tl W; rwa [show farF tl = false from by assumption] at h9⟩
  have HC : Aside0 (∀ W, Calls Tryz.prog 140 #[.int .i64 tc] W fun e w' => e = .returned (.bool false) ∧ W = w') := ⟨fun W => by have h9 := far_any tc W; rwa [show farF tc = false from by assumption] at h9⟩
  have HT := Aside0.mk ht; clear ht
  have HQ0 : Aside0 (((w.alloc (.cells #[.int .i64 tk, .int .i64 tn, .string tx, .int .i64 ta, .int .i64 tl, .int .i64 tc] 54)).alloc (.cells #[.int .i64 bk, .int .i64 bn, .string bx, .int .i64 ba, .int .i64 bl, .int .i64 bc] 54)).heap[w.heap.size]? = some (.cells #[.int .i64 tk, .int .i64 tn, .string tx, .int .i64 ta, .int .i64 tl, .int .i64 tc] 54)) := ⟨heap_alloc (heap_new w _) _⟩
  have HQ1 : Aside0 (((w.alloc (.cells #[.int .i64 tk, .int .i64 tn, .string tx, .int .i64 ta, .int .i64 tl, .int .i64 tc] 54)).alloc (.cells #[.int .i64 bk, .int .i64 bn, .string bx, .int .i64 ba, .int .i64 bl, .int .i64 bc] 54)).heap[w.heap.size + 1]? = some (.cells #[.int .i64 bk, .int .i64 bn, .string bx, .int .i64 ba, .int .i64 bl, .int .i64 bc] 54)) := ⟨heap_new' _ _ _ (by simp)⟩
  go_enter Tryz.func106, Tryz.ntmps106
  go_wp2_with (first | (go_at_call 140; (with_reducible refine (HA.out _).mono ?_); rintro e w1 ⟨rfl, rfl⟩) | (go_at_call 140; (with_reducible refine (HL.out _).mono ?_); rintro e w1 ⟨rfl, rfl⟩) | (go_at_call 140; (with_reducible refine (HC.out _).mono ?_); rintro e w1 ⟨rfl, rfl⟩) | (go_at_call 141; (refine (HFO.out _ (Pow.on HT.out HB0.out)).mono ?_); rintro e w1 ⟨rfl, hb⟩; have HBB := Aside0.mk hb; have e0 := (hb.block _ (heap_lt HQ0.out)).trans HQ0.out; have e1 := (hb.block _ (heap_lt HQ1.out)).trans HQ1.out; have z3 : w1.cell? ⟨w.heap.size, 3, none⟩ = some (.int .i64 ta) := cell_of e0 3; have z4 : w1.cell? ⟨w.heap.size, 4, none⟩ = some (.int .i64 tl) := cell_of e0 4; have z5 : w1.cell? ⟨w.heap.size, 5, none⟩ = some (.int .i64 tc) := cell_of e0 5; have y3 : w1.cell? ⟨w.heap.size + 1, 3, none⟩ = some (.int .i64 ba) := cell_of e1 3; have y4 : w1.cell? ⟨w.heap.size + 1, 4, none⟩ = some (.int .i64 bl) := cell_of e1 4; have y5 : w1.cell? ⟨w.heap.size + 1, 5, none⟩ = some (.int .i64 bc) := cell_of e1 5; clear hb e0 e1))
  go_ret
  exact ⟨rfl, HB0.out.trans (HBB.out.mono HB0.out.size)⟩
set_option maxRecDepth 100000 in
set_option maxHeartbeats 4000000 in
theorem tokErr_up (tk tn : Int) (tx : ByteArray) (ta tl tc bk bn : Int) (bx : ByteArray) (ba bl bc : Int) (w : World) (h0 : 1 ≤ tk) (h : tk ≤ 4) (h1 : farF ta = false) (h2 : farF tl = false) (h3 : farF tc = false) (ht : Pow w) (HFO : Aside0 (∀ W, Pow W → Calls Tryz.prog 141 #[.agg #[.int .i64 tk, .int .i64 tn, .string tx, .int .i64 ta, .int .i64 tl, .int .i64 tc]] W fun e w' => e = .returned (.bool true) ∧ Below W.heap.size W w')) (hb0 : 0 ≤ ba) (hb1 : 0 ≤ bc) (hb2 : bx.size ≤ 65536) (hb3 : ba ≤ 65536) (hb4 : bc ≤ 65536) (ho : tl < bl) :
    Calls Tryz.prog 106 #[.agg #[.int .i64 tk, .int .i64 tn, .string tx, .int .i64 ta, .int .i64 tl, .int .i64 tc], .agg #[.int .i64 bk, .int .i64 bn, .string bx, .int .i64 ba, .int .i64 bl, .int .i64 bc]] w fun e w' => e = .returned (.int .i64 15) ∧ Below w.heap.size w w' := by
  have HB0 : Aside0 (Below w.heap.size w ((w.alloc (.cells #[.int .i64 tk, .int .i64 tn, .string tx, .int .i64 ta, .int .i64 tl, .int .i64 tc] 54)).alloc (.cells #[.int .i64 bk, .int .i64 bn, .string bx, .int .i64 ba, .int .i64 bl, .int .i64 bc] 54))) := ⟨((Below.refl _ w).alloc (Nat.le_refl _) _).alloc (by simp) _⟩
  have n1 : decide (tk < 1) = false := by simp; omega
  have n2 : decide (tk > 4) = false := by simp; omega
  have HA : Aside0 (∀ W, Calls Tryz.prog 140 #[.int .i64 ta] W fun e w' => e = .returned (.bool false) ∧ W = w') := ⟨fun W => by have h9 := far_any ta W; rwa [show farF ta = false from by assumption] at h9⟩
  have HL : Aside0 (∀ W, Calls Tryz.prog 140 #[.int .i64 tl] W fun e w' => e = .returned (.bool false) ∧ W = w') := ⟨fun W => by have h9 := far_any tl W; rwa [show farF tl = false from by assumption] at h9⟩
  have HC : Aside0 (∀ W, Calls Tryz.prog 140 #[.int .i64 tc] W fun e w' => e = .returned (.bool false) ∧ W = w') := ⟨fun W => by have h9 := far_any tc W; rwa [show farF tc = false from by assumption] at h9⟩
  have HT := Aside0.mk ht; clear ht
  have HQ0 : Aside0 (((w.alloc (.cells #[.int .i64 tk, .int .i64 tn, .string tx, .int .i64 ta, .int .i64 tl, .int .i64 tc] 54)).alloc (.cells #[.int .i64 bk, .int .i64 bn, .string bx, .int .i64 ba, .int .i64 bl, .int .i64 bc] 54)).heap[w.heap.size]? = some (.cells #[.int .i64 tk, .int .i64 tn, .string tx, .int .i64 ta, .int .i64 tl, .int .i64 tc] 54)) := ⟨heap_alloc (heap_new w _) _⟩
  have HQ1 : Aside0 (((w.alloc (.cells #[.int .i64 tk, .int .i64 tn, .string tx, .int .i64 ta, .int .i64 tl, .int .i64 tc] 54)).alloc (.cells #[.int .i64 bk, .int .i64 bn, .string bx, .int .i64 ba, .int .i64 bl, .int .i64 bc] 54)).heap[w.heap.size + 1]? = some (.cells #[.int .i64 bk, .int .i64 bn, .string bx, .int .i64 ba, .int .i64 bl, .int .i64 bc] 54)) := ⟨heap_new' _ _ _ (by simp)⟩
  have n3 : decide (tl < bl) = true := by simp; omega
  go_enter Tryz.func106, Tryz.ntmps106
  go_wp2_with (first | (go_at_call 140; (with_reducible refine (HA.out _).mono ?_); rintro e w1 ⟨rfl, rfl⟩) | (go_at_call 140; (with_reducible refine (HL.out _).mono ?_); rintro e w1 ⟨rfl, rfl⟩) | (go_at_call 140; (with_reducible refine (HC.out _).mono ?_); rintro e w1 ⟨rfl, rfl⟩) | (go_at_call 141; (refine (HFO.out _ (Pow.on HT.out HB0.out)).mono ?_); rintro e w1 ⟨rfl, hb⟩; have HBB := Aside0.mk hb; have e0 := (hb.block _ (heap_lt HQ0.out)).trans HQ0.out; have e1 := (hb.block _ (heap_lt HQ1.out)).trans HQ1.out; have z3 : w1.cell? ⟨w.heap.size, 3, none⟩ = some (.int .i64 ta) := cell_of e0 3; have z4 : w1.cell? ⟨w.heap.size, 4, none⟩ = some (.int .i64 tl) := cell_of e0 4; have z5 : w1.cell? ⟨w.heap.size, 5, none⟩ = some (.int .i64 tc) := cell_of e0 5; have y3 : w1.cell? ⟨w.heap.size + 1, 3, none⟩ = some (.int .i64 ba) := cell_of e1 3; have y4 : w1.cell? ⟨w.heap.size + 1, 4, none⟩ = some (.int .i64 bl) := cell_of e1 4; have y5 : w1.cell? ⟨w.heap.size + 1, 5, none⟩ = some (.int .i64 bc) := cell_of e1 5; clear hb e0 e1))
  go_ret
  exact ⟨rfl, HB0.out.trans (HBB.out.mono HB0.out.size)⟩
set_option maxRecDepth 100000 in
set_option maxHeartbeats 4000000 in
theorem tokErr_row (tk tn : Int) (tx : ByteArray) (ta tl tc bk bn : Int) (bx : ByteArray) (ba bl bc : Int) (w : World) (h0 : 1 ≤ tk) (h : tk ≤ 4) (h1 : farF ta = false) (h2 : farF tl = false) (h3 : farF tc = false) (ht : Pow w) (HFO : Aside0 (∀ W, Pow W → Calls Tryz.prog 141 #[.agg #[.int .i64 tk, .int .i64 tn, .string tx, .int .i64 ta, .int .i64 tl, .int .i64 tc]] W fun e w' => e = .returned (.bool true) ∧ Below W.heap.size W w')) (hb0 : 0 ≤ ba) (hb1 : 0 ≤ bc) (hb2 : bx.size ≤ 65536) (hb3 : ba ≤ 65536) (hb4 : bc ≤ 65536) (ho : tl = bl) (hp : tc < bc + (bx.size : Int)) :
    Calls Tryz.prog 106 #[.agg #[.int .i64 tk, .int .i64 tn, .string tx, .int .i64 ta, .int .i64 tl, .int .i64 tc], .agg #[.int .i64 bk, .int .i64 bn, .string bx, .int .i64 ba, .int .i64 bl, .int .i64 bc]] w fun e w' => e = .returned (.int .i64 15) ∧ Below w.heap.size w w' := by
  have HB0 : Aside0 (Below w.heap.size w ((w.alloc (.cells #[.int .i64 tk, .int .i64 tn, .string tx, .int .i64 ta, .int .i64 tl, .int .i64 tc] 54)).alloc (.cells #[.int .i64 bk, .int .i64 bn, .string bx, .int .i64 ba, .int .i64 tl, .int .i64 bc] 54))) := ⟨((Below.refl _ w).alloc (Nat.le_refl _) _).alloc (by simp) _⟩
  subst ho
  have n1 : decide (tk < 1) = false := by simp; omega
  have n2 : decide (tk > 4) = false := by simp; omega
  have HA : Aside0 (∀ W, Calls Tryz.prog 140 #[.int .i64 ta] W fun e w' => e = .returned (.bool false) ∧ W = w') := ⟨fun W => by have h9 := far_any ta W; rwa [show farF ta = false from by assumption] at h9⟩
  have HL : Aside0 (∀ W, Calls Tryz.prog 140 #[.int .i64 tl] W fun e w' => e = .returned (.bool false) ∧ W = w') := ⟨fun W => by have h9 := far_any tl W; rwa [show farF tl = false from by assumption] at h9⟩
  have HC : Aside0 (∀ W, Calls Tryz.prog 140 #[.int .i64 tc] W fun e w' => e = .returned (.bool false) ∧ W = w') := ⟨fun W => by have h9 := far_any tc W; rwa [show farF tc = false from by assumption] at h9⟩
  have HT := Aside0.mk ht; clear ht
  have HQ0 : Aside0 (((w.alloc (.cells #[.int .i64 tk, .int .i64 tn, .string tx, .int .i64 ta, .int .i64 tl, .int .i64 tc] 54)).alloc (.cells #[.int .i64 bk, .int .i64 bn, .string bx, .int .i64 ba, .int .i64 tl, .int .i64 bc] 54)).heap[w.heap.size]? = some (.cells #[.int .i64 tk, .int .i64 tn, .string tx, .int .i64 ta, .int .i64 tl, .int .i64 tc] 54)) := ⟨heap_alloc (heap_new w _) _⟩
  have HQ1 : Aside0 (((w.alloc (.cells #[.int .i64 tk, .int .i64 tn, .string tx, .int .i64 ta, .int .i64 tl, .int .i64 tc] 54)).alloc (.cells #[.int .i64 bk, .int .i64 bn, .string bx, .int .i64 ba, .int .i64 tl, .int .i64 bc] 54)).heap[w.heap.size + 1]? = some (.cells #[.int .i64 bk, .int .i64 bn, .string bx, .int .i64 ba, .int .i64 tl, .int .i64 bc] 54)) := ⟨heap_new' _ _ _ (by simp)⟩
  have n3 : decide (tl < tl) = false := by simp
  have n5 : decide (tc < bc + (bx.size : Int)) = true := by simp; omega
  go_enter Tryz.func106, Tryz.ntmps106
  go_wp2_with (first | (go_at_call 140; (with_reducible refine (HA.out _).mono ?_); rintro e w1 ⟨rfl, rfl⟩) | (go_at_call 140; (with_reducible refine (HL.out _).mono ?_); rintro e w1 ⟨rfl, rfl⟩) | (go_at_call 140; (with_reducible refine (HC.out _).mono ?_); rintro e w1 ⟨rfl, rfl⟩) | (go_at_call 141; (refine (HFO.out _ (Pow.on HT.out HB0.out)).mono ?_); rintro e w1 ⟨rfl, hb⟩; have HBB := Aside0.mk hb; have e0 := (hb.block _ (heap_lt HQ0.out)).trans HQ0.out; have e1 := (hb.block _ (heap_lt HQ1.out)).trans HQ1.out; have z3 : w1.cell? ⟨w.heap.size, 3, none⟩ = some (.int .i64 ta) := cell_of e0 3; have z4 : w1.cell? ⟨w.heap.size, 4, none⟩ = some (.int .i64 tl) := cell_of e0 4; have z5 : w1.cell? ⟨w.heap.size, 5, none⟩ = some (.int .i64 tc) := cell_of e0 5; have y3 : w1.cell? ⟨w.heap.size + 1, 3, none⟩ = some (.int .i64 ba) := cell_of e1 3; have y4 : w1.cell? ⟨w.heap.size + 1, 4, none⟩ = some (.int .i64 tl) := cell_of e1 4; have y5 : w1.cell? ⟨w.heap.size + 1, 5, none⟩ = some (.int .i64 bc) := cell_of e1 5; clear hb e0 e1))
  go_ret
  exact ⟨rfl, HB0.out.trans (HBB.out.mono HB0.out.size)⟩
set_option maxRecDepth 100000 in
set_option maxHeartbeats 4000000 in
theorem tokErr_same (tk tn : Int) (tx : ByteArray) (ta tl tc bk bn : Int) (bx : ByteArray) (ba bl bc : Int) (w : World) (h0 : 1 ≤ tk) (h : tk ≤ 4) (h1 : farF ta = false) (h2 : farF tl = false) (h3 : farF tc = false) (ht : Pow w) (HFO : Aside0 (∀ W, Pow W → Calls Tryz.prog 141 #[.agg #[.int .i64 tk, .int .i64 tn, .string tx, .int .i64 ta, .int .i64 tl, .int .i64 tc]] W fun e w' => e = .returned (.bool true) ∧ Below W.heap.size W w')) (hb0 : 0 ≤ ba) (hb1 : 0 ≤ bc) (hb2 : bx.size ≤ 65536) (hb3 : ba ≤ 65536) (hb4 : bc ≤ 65536) (ho : tl = bl) (hp : bc + (bx.size : Int) ≤ tc) (hq : ta < ba + (bx.size : Int)) :
    Calls Tryz.prog 106 #[.agg #[.int .i64 tk, .int .i64 tn, .string tx, .int .i64 ta, .int .i64 tl, .int .i64 tc], .agg #[.int .i64 bk, .int .i64 bn, .string bx, .int .i64 ba, .int .i64 bl, .int .i64 bc]] w fun e w' => e = .returned (.int .i64 15) ∧ Below w.heap.size w w' := by
  have HB0 : Aside0 (Below w.heap.size w ((w.alloc (.cells #[.int .i64 tk, .int .i64 tn, .string tx, .int .i64 ta, .int .i64 tl, .int .i64 tc] 54)).alloc (.cells #[.int .i64 bk, .int .i64 bn, .string bx, .int .i64 ba, .int .i64 tl, .int .i64 bc] 54))) := ⟨((Below.refl _ w).alloc (Nat.le_refl _) _).alloc (by simp) _⟩
  subst ho
  have n1 : decide (tk < 1) = false := by simp; omega
  have n2 : decide (tk > 4) = false := by simp; omega
  have HA : Aside0 (∀ W, Calls Tryz.prog 140 #[.int .i64 ta] W fun e w' => e = .returned (.bool false) ∧ W = w') := ⟨fun W => by have h9 := far_any ta W; rwa [show farF ta = false from by assumption] at h9⟩
  have HL : Aside0 (∀ W, Calls Tryz.prog 140 #[.int .i64 tl] W fun e w' => e = .returned (.bool false) ∧ W = w') := ⟨fun W => by have h9 := far_any tl W; rwa [show farF tl = false from by assumption] at h9⟩
  have HC : Aside0 (∀ W, Calls Tryz.prog 140 #[.int .i64 tc] W fun e w' => e = .returned (.bool false) ∧ W = w') := ⟨fun W => by have h9 := far_any tc W; rwa [show farF tc = false from by assumption] at h9⟩
  have HT := Aside0.mk ht; clear ht
  have HQ0 : Aside0 (((w.alloc (.cells #[.int .i64 tk, .int .i64 tn, .string tx, .int .i64 ta, .int .i64 tl, .int .i64 tc] 54)).alloc (.cells #[.int .i64 bk, .int .i64 bn, .string bx, .int .i64 ba, .int .i64 tl, .int .i64 bc] 54)).heap[w.heap.size]? = some (.cells #[.int .i64 tk, .int .i64 tn, .string tx, .int .i64 ta, .int .i64 tl, .int .i64 tc] 54)) := ⟨heap_alloc (heap_new w _) _⟩
  have HQ1 : Aside0 (((w.alloc (.cells #[.int .i64 tk, .int .i64 tn, .string tx, .int .i64 ta, .int .i64 tl, .int .i64 tc] 54)).alloc (.cells #[.int .i64 bk, .int .i64 bn, .string bx, .int .i64 ba, .int .i64 tl, .int .i64 bc] 54)).heap[w.heap.size + 1]? = some (.cells #[.int .i64 bk, .int .i64 bn, .string bx, .int .i64 ba, .int .i64 tl, .int .i64 bc] 54)) := ⟨heap_new' _ _ _ (by simp)⟩
  have n3 : decide (tl < tl) = false := by simp
  have n5 : decide (tc < bc + (bx.size : Int)) = false := by simp; omega
  have n4 : decide (ta < ba + (bx.size : Int)) = true := by simp; omega
  go_enter Tryz.func106, Tryz.ntmps106
  go_wp2_with (first | (go_at_call 140; (with_reducible refine (HA.out _).mono ?_); rintro e w1 ⟨rfl, rfl⟩) | (go_at_call 140; (with_reducible refine (HL.out _).mono ?_); rintro e w1 ⟨rfl, rfl⟩) | (go_at_call 140; (with_reducible refine (HC.out _).mono ?_); rintro e w1 ⟨rfl, rfl⟩) | (go_at_call 141; (refine (HFO.out _ (Pow.on HT.out HB0.out)).mono ?_); rintro e w1 ⟨rfl, hb⟩; have HBB := Aside0.mk hb; have e0 := (hb.block _ (heap_lt HQ0.out)).trans HQ0.out; have e1 := (hb.block _ (heap_lt HQ1.out)).trans HQ1.out; have z3 : w1.cell? ⟨w.heap.size, 3, none⟩ = some (.int .i64 ta) := cell_of e0 3; have z4 : w1.cell? ⟨w.heap.size, 4, none⟩ = some (.int .i64 tl) := cell_of e0 4; have z5 : w1.cell? ⟨w.heap.size, 5, none⟩ = some (.int .i64 tc) := cell_of e0 5; have y3 : w1.cell? ⟨w.heap.size + 1, 3, none⟩ = some (.int .i64 ba) := cell_of e1 3; have y4 : w1.cell? ⟨w.heap.size + 1, 4, none⟩ = some (.int .i64 tl) := cell_of e1 4; have y5 : w1.cell? ⟨w.heap.size + 1, 5, none⟩ = some (.int .i64 bc) := cell_of e1 5; clear hb e0 e1))
  go_ret
  exact ⟨rfl, HB0.out.trans (HBB.out.mono HB0.out.size)⟩
set_option maxRecDepth 100000 in
set_option maxHeartbeats 4000000 in
theorem tokErr_far (tk tn : Int) (tx : ByteArray) (ta tl tc bk bn : Int) (bx : ByteArray) (ba bl bc : Int) (w : World) (h0 : 1 ≤ tk) (h : tk ≤ 4) (h1 : farF ta = false) (h2 : farF tl = false) (h3 : farF tc = false) (ht : Pow w) (HFO : Aside0 (∀ W, Pow W → Calls Tryz.prog 141 #[.agg #[.int .i64 tk, .int .i64 tn, .string tx, .int .i64 ta, .int .i64 tl, .int .i64 tc]] W fun e w' => e = .returned (.bool true) ∧ Below W.heap.size W w')) (hb0 : 0 ≤ ba) (hb1 : 0 ≤ bc) (hb2 : bx.size ≤ 65536) (hb3 : ba ≤ 65536) (hb4 : bc ≤ 65536) (ho : bl < tl) (hq : ta < ba + (bx.size : Int)) :
    Calls Tryz.prog 106 #[.agg #[.int .i64 tk, .int .i64 tn, .string tx, .int .i64 ta, .int .i64 tl, .int .i64 tc], .agg #[.int .i64 bk, .int .i64 bn, .string bx, .int .i64 ba, .int .i64 bl, .int .i64 bc]] w fun e w' => e = .returned (.int .i64 15) ∧ Below w.heap.size w w' := by
  have HB0 : Aside0 (Below w.heap.size w ((w.alloc (.cells #[.int .i64 tk, .int .i64 tn, .string tx, .int .i64 ta, .int .i64 tl, .int .i64 tc] 54)).alloc (.cells #[.int .i64 bk, .int .i64 bn, .string bx, .int .i64 ba, .int .i64 bl, .int .i64 bc] 54))) := ⟨((Below.refl _ w).alloc (Nat.le_refl _) _).alloc (by simp) _⟩
  have n1 : decide (tk < 1) = false := by simp; omega
  have n2 : decide (tk > 4) = false := by simp; omega
  have HA : Aside0 (∀ W, Calls Tryz.prog 140 #[.int .i64 ta] W fun e w' => e = .returned (.bool false) ∧ W = w') := ⟨fun W => by have h9 := far_any ta W; rwa [show farF ta = false from by assumption] at h9⟩
  have HL : Aside0 (∀ W, Calls Tryz.prog 140 #[.int .i64 tl] W fun e w' => e = .returned (.bool false) ∧ W = w') := ⟨fun W => by have h9 := far_any tl W; rwa [show farF tl = false from by assumption] at h9⟩
  have HC : Aside0 (∀ W, Calls Tryz.prog 140 #[.int .i64 tc] W fun e w' => e = .returned (.bool false) ∧ W = w') := ⟨fun W => by have h9 := far_any tc W; rwa [show farF tc = false from by assumption] at h9⟩
  have HT := Aside0.mk ht; clear ht
  have HQ0 : Aside0 (((w.alloc (.cells #[.int .i64 tk, .int .i64 tn, .string tx, .int .i64 ta, .int .i64 tl, .int .i64 tc] 54)).alloc (.cells #[.int .i64 bk, .int .i64 bn, .string bx, .int .i64 ba, .int .i64 bl, .int .i64 bc] 54)).heap[w.heap.size]? = some (.cells #[.int .i64 tk, .int .i64 tn, .string tx, .int .i64 ta, .int .i64 tl, .int .i64 tc] 54)) := ⟨heap_alloc (heap_new w _) _⟩
  have HQ1 : Aside0 (((w.alloc (.cells #[.int .i64 tk, .int .i64 tn, .string tx, .int .i64 ta, .int .i64 tl, .int .i64 tc] 54)).alloc (.cells #[.int .i64 bk, .int .i64 bn, .string bx, .int .i64 ba, .int .i64 bl, .int .i64 bc] 54)).heap[w.heap.size + 1]? = some (.cells #[.int .i64 bk, .int .i64 bn, .string bx, .int .i64 ba, .int .i64 bl, .int .i64 bc] 54)) := ⟨heap_new' _ _ _ (by simp)⟩
  have n3 : decide (tl < bl) = false := by simp; omega
  have n5 : (tl == bl) = false := by rw [beq_eq_false_iff_ne]; omega
  have n6 : ¬ tl = bl := by omega
  have n4 : decide (ta < ba + (bx.size : Int)) = true := by simp; omega
  go_enter Tryz.func106, Tryz.ntmps106
  go_wp2_with (first | (go_at_call 140; (with_reducible refine (HA.out _).mono ?_); rintro e w1 ⟨rfl, rfl⟩) | (go_at_call 140; (with_reducible refine (HL.out _).mono ?_); rintro e w1 ⟨rfl, rfl⟩) | (go_at_call 140; (with_reducible refine (HC.out _).mono ?_); rintro e w1 ⟨rfl, rfl⟩) | (go_at_call 141; (refine (HFO.out _ (Pow.on HT.out HB0.out)).mono ?_); rintro e w1 ⟨rfl, hb⟩; have HBB := Aside0.mk hb; have e0 := (hb.block _ (heap_lt HQ0.out)).trans HQ0.out; have e1 := (hb.block _ (heap_lt HQ1.out)).trans HQ1.out; have z3 : w1.cell? ⟨w.heap.size, 3, none⟩ = some (.int .i64 ta) := cell_of e0 3; have z4 : w1.cell? ⟨w.heap.size, 4, none⟩ = some (.int .i64 tl) := cell_of e0 4; have z5 : w1.cell? ⟨w.heap.size, 5, none⟩ = some (.int .i64 tc) := cell_of e0 5; have y3 : w1.cell? ⟨w.heap.size + 1, 3, none⟩ = some (.int .i64 ba) := cell_of e1 3; have y4 : w1.cell? ⟨w.heap.size + 1, 4, none⟩ = some (.int .i64 bl) := cell_of e1 4; have y5 : w1.cell? ⟨w.heap.size + 1, 5, none⟩ = some (.int .i64 bc) := cell_of e1 5; clear hb e0 e1))
  go_ret
  exact ⟨rfl, HB0.out.trans (HBB.out.mono HB0.out.size)⟩
theorem tokErr_ran (tk tn : Int) (tx : ByteArray) (ta tl tc bk bn : Int) (bx : ByteArray) (ba bl bc : Int) (w : World) (h : ranT ⟨tk, tn, tx, ta, tl, tc⟩ = true) :
    Calls Tryz.prog 106 #[.agg #[.int .i64 tk, .int .i64 tn, .string tx, .int .i64 ta, .int .i64 tl, .int .i64 tc], .agg #[.int .i64 bk, .int .i64 bn, .string bx, .int .i64 ba, .int .i64 bl, .int .i64 bc]] w fun e w' => e = .returned (.int .i64 3) ∧ Below w.heap.size w w' := by
  unfold ranT at h
  simp only [Bool.or_eq_true, decide_eq_true_eq] at h
  by_cases c1 : tk < 1
  · exact tokErr_k1 tk tn tx ta tl tc bk bn bx ba bl bc w c1
  · by_cases c2 : 4 < tk
    · exact tokErr_k4 tk tn tx ta tl tc bk bn bx ba bl bc w (by omega) c2
    · cases c3 : farF ta with
      | true => exact tokErr_at tk tn tx ta tl tc bk bn bx ba bl bc w (by omega) (by omega) c3
      | false =>
        cases c4 : farF tl with
        | true => exact tokErr_line tk tn tx ta tl tc bk bn bx ba bl bc w (by omega) (by omega) c3 c4
        | false =>
          cases c5 : farF tc with
          | true => exact tokErr_col tk tn tx ta tl tc bk bn bx ba bl bc w (by omega) (by omega) c3 c4 c5
          | false =>
            exfalso
            simp [farF] at c3 c4 c5
            omega
theorem cutB_iff (t : Tok) (hn : cutB t.kind t.num t.text = true) : WfT t := by
  obtain ⟨tk, tn, tx, ta, tl, tc⟩ := t
  unfold cutB at hn
  simp only [Bool.and_eq_true, decide_eq_true_eq, beq_iff_eq] at hn
  obtain ⟨h1, h2, h3, h4, h5, h6⟩ := hn
  have h9 := next_wf tx 0 (by omega) (by omega) h2 h3
  have e5 : (nextOf tx 0 (kindOf (bt tx 0))).1.text = tx := by
    rw [ByteArray.toList_eq, ByteArray.toList_eq] at h5
    exact ByteArray.ext (Array.toList_inj.1 h5)
  unfold WfT at h9 ⊢
  rw [h4, h6, e5] at h9
  exact h9
theorem tokenError_any (t b : Tok) (w : World) (ht : Pow w) (hs : t.text.size ≤ 65536) (hb0 : 0 ≤ b.at_) (hb1 : 0 ≤ b.col) (hb2 : b.text.size ≤ 65536) (hb3 : b.at_ ≤ 65536) (hb4 : b.col ≤ 65536) :
    Calls Tryz.prog 106 #[.agg t.cells, .agg b.cells] w fun e w' => e = .returned (.int .i64 (errT (some b) t)) ∧ Below w.heap.size w w' := by
  by_cases hw : WfT t
  · by_cases hg : GoodT b t
    · have h9 := errT_good (b := some b) hg
      rw [h9]
      exact tokenError_ok t b w ht hg hb0 hb1 hb2 hb3 hb4
    · obtain ⟨k1, k2⟩ := hw.kind
      have HFO := Aside0.mk (fun W (hW : Pow W) => formed_ok t W hW (by omega) hw)
      have hc := cutB_of hw
      have hgg : ∀ (_ : ranT t = false), ordT b t = true := fun hr => by
        cases ho : ordT b t with
        | true => rfl
        | false =>
          unfold ranT at hr
          unfold ordT at ho
          simp only [Bool.or_eq_false_iff, Bool.and_eq_false_iff, decide_eq_false_iff_not] at hr ho
          refine absurd ⟨hw, by omega, by omega, by omega, by omega, by omega, by omega, hs, by omega, fun h => ?_, by omega⟩ hg
          rcases ho.2.1 with h1 | h1
          · exact absurd h.symm h1
          · omega
      cases hr : ranT t with
      | true =>
        have he : errT (some b) t = 3 := by unfold errT; rw [if_pos hr]
        rw [he]
        obtain ⟨tk, tn, tx, ta, tl, tc⟩ := t
        obtain ⟨bk, bn, bx, ba, bl, bc⟩ := b
        exact tokErr_ran tk tn tx ta tl tc bk bn bx ba bl bc w hr
      | false =>
        have ho := hgg hr
        have he : errT (some b) t = 15 := by unfold errT; rw [if_neg (by rw [hr]; decide), if_pos hc]; simp only [ho, if_true]
        rw [he]
        obtain ⟨tk, tn, tx, ta, tl, tc⟩ := t
        obtain ⟨bk, bn, bx, ba, bl, bc⟩ := b
        unfold ranT at hr
        unfold ordT at ho
        simp only [Bool.or_eq_false_iff, decide_eq_false_iff_not, Bool.or_eq_true, Bool.and_eq_true, decide_eq_true_eq] at hr ho
        simp only at hb0 hb1 hb2 hb3 hb4 k1 k2
        simp only [Tok.cells] at HFO ⊢
        have f1 := farF_false (n := ta) (by omega) (by omega)
        have f2 := farF_false (n := tl) (by omega) (by omega)
        have f3 := farF_false (n := tc) (by omega) (by omega)
        rcases Int.lt_trichotomy tl bl with c | c | c
        · exact tokErr_up tk tn tx ta tl tc bk bn bx ba bl bc w k1 k2 f1 f2 f3 ht HFO hb0 hb1 hb2 hb3 hb4 c
        · by_cases d : tc < bc + (bx.size : Int)
          · exact tokErr_row tk tn tx ta tl tc bk bn bx ba bl bc w k1 k2 f1 f2 f3 ht HFO hb0 hb1 hb2 hb3 hb4 c d
          · exact tokErr_same tk tn tx ta tl tc bk bn bx ba bl bc w k1 k2 f1 f2 f3 ht HFO hb0 hb1 hb2 hb3 hb4 c (by omega) (by rcases ho with h | ⟨_, h⟩ | h <;> omega)
        · exact tokErr_far tk tn tx ta tl tc bk bn bx ba bl bc w k1 k2 f1 f2 f3 ht HFO hb0 hb1 hb2 hb3 hb4 c (by rcases ho with h | ⟨h, _⟩ | h <;> omega)
  · have hc : cutB t.kind t.num t.text = false := by
      cases h : cutB t.kind t.num t.text with
      | false => rfl
      | true => exact absurd (cutB_iff t h) hw
    cases hr : ranT t with
    | true =>
      have he : errT (some b) t = 3 := by unfold errT; rw [if_pos hr]
      rw [he]
      obtain ⟨tk, tn, tx, ta, tl, tc⟩ := t
      obtain ⟨bk, bn, bx, ba, bl, bc⟩ := b
      exact tokErr_ran tk tn tx ta tl tc bk bn bx ba bl bc w hr
    | false =>
      have he : errT (some b) t = 4 := by unfold errT; rw [if_neg (by rw [hr]; decide), if_neg (by rw [hc]; decide)]
      rw [he]
      have hr2 := hr
      unfold ranT at hr2
      simp only [Bool.or_eq_false_iff, decide_eq_false_iff_not] at hr2
      have HFO := Aside0.mk (fun W (hW : Pow W) => formed_bad t W hW hs (by omega) (by omega) hw)
      obtain ⟨tk, tn, tx, ta, tl, tc⟩ := t
      obtain ⟨bk, bn, bx, ba, bl, bc⟩ := b
      simp only at hr2
      simp only [Tok.cells] at HFO ⊢
      exact tokErr_form tk tn tx ta tl tc bk bn bx ba bl bc w (by omega) (by omega) (farF_false (by omega) (by omega)) (farF_false (by omega) (by omega)) (farF_false (by omega) (by omega)) ht HFO
end Go.Proofs.YtfnhjdehlikbaaaGreatDoor.Lx
namespace Go.Proofs.YtfnhjdehlikbaaaGreatDoor.Lx
open Go.RowKit Go.Proofs.YtfnhjdehlikbaaaGreatDoorW.PrintWords
def PrevOk (l : List Tok) (k : Nat) : Prop := 0 ≤ (prevT l k).at_ ∧ 0 ≤ (prevT l k).col ∧ (prevT l k).text.size ≤ 65536 ∧ (prevT l k).at_ ≤ 65536 ∧ (prevT l k).col ≤ 65536
theorem prevOk_zero (l : List Tok) : PrevOk l 0 := ⟨Int.le_refl _, Int.le_refl _, by show (0 : Nat) ≤ 65536; omega, by show (0 : Int) ≤ 65536; omega, by show (0 : Int) ≤ 65536; omega⟩
theorem errT_ran {b : Option Tok} {t : Tok} (h : errT b t = 0) : ranT t = false := by
  cases hr : ranT t with
  | false => rfl
  | true => unfold errT at h; rw [if_pos hr] at h; exact absurd h (by decide)
theorem errT_zero (t : Tok) : errT (some tokZ) t = errT none t := by
  unfold errT
  split
  · rfl
  · rename_i h
    split
    · have hr : ranT t = false := by simpa using h
      have ho : ordT tokZ t = false := by
        unfold ranT at hr
        unfold ordT
        simp only [Bool.or_eq_false_iff, Bool.and_eq_false_iff, decide_eq_false_iff_not] at hr ⊢
        have z1 : tokZ.line = 0 := rfl
        have z2 : tokZ.col = 0 := rfl
        have z3 : tokZ.at_ = 0 := rfl
        have z4 : tokZ.text.size = 0 := rfl
        refine ⟨by omega, .inr (by omega), by omega⟩
      simp [ho]
    · rfl
theorem errT_prev {l : List Tok} {k : Nat} (hk : k < l.length) (t : Tok) : errT (if k = 0 then none else l[k - 1]?) t = errT (some (prevT l k)) t := by
  unfold prevT
  by_cases h : k = 0
  · rw [if_pos h, if_pos h, errT_zero]
  · rw [if_neg h, if_neg h, List.getElem?_eq_getElem (show k - 1 < l.length by omega)]
    rfl
theorem errG_go {l : List Tok} {k : Nat} (hk : k < l.length) (h : errT (some (prevT l k)) l[k] = 0) (n : Nat) : errG l (n + 1) k = errG l n (k + 1) := by
  rw [errG, List.getElem?_eq_getElem hk, Option.getD_some, errT_prev hk, if_pos h]
theorem errG_stop {l : List Tok} {k : Nat} (hk : k < l.length) (h : ¬ errT (some (prevT l k)) l[k] = 0) (n : Nat) : errG l (n + 1) k = ((k : Int), errT (some (prevT l k)) l[k]) := by
  rw [errG, List.getElem?_eq_getElem hk, Option.getD_some, errT_prev hk, if_neg h]
theorem prevOk_succ (l : List Tok) (k : Nat) (hk : k < l.length) (hs : l[k].text.size ≤ 65536) (h : errT (some (prevT l k)) l[k] = 0) : PrevOk l (k + 1) := by
  have hr := errT_ran h
  unfold ranT at hr
  simp only [Bool.or_eq_false_iff, decide_eq_false_iff_not] at hr
  have e : prevT l (k + 1) = l[k] := by simp [prevT, hk]
  unfold PrevOk
  rw [e]
  exact ⟨by omega, by omega, hs, by omega, by omega⟩
set_option maxRecDepth 100000 in
set_option maxHeartbeats 8000000 in
theorem listError_go (l : List Tok) (g c : Nat) (w : World) (ht : Pow w) (hl : l.length ≤ 4000) (hz : ∀ t ∈ l, t.text.size ≤ 65536) (hT : TokAt g l w) :
    Calls Tryz.prog 67 #[.slice (some ⟨g, 0, none⟩) l.length c] w fun e w' => e = .returned (.tuple #[.int .i64 (errL l).1, .int .i64 (errL l).2]) ∧ Below w.heap.size w w' := by
  have HT := Aside0.mk ht; clear ht
  have HZ := Aside0.mk hz; clear hz
  obtain ⟨R, hR⟩ : ∃ R, errL l = R := ⟨_, rfl⟩
  have HR : Aside0 (errG l l.length 0 = R) := ⟨by rw [← hR]; unfold errL; rw [if_neg (by omega)]⟩
  rw [hR]
  clear hR
  have HTK := Aside0.mk hT; clear hT
  have hgl : g < w.heap.size := by
    obtain ⟨cs, f, h1, _⟩ := HTK.out
    exact heap_lt h1
  go_enter Tryz.func67, Tryz.ntmps67
  go_wp2
  go_loopg [14] l.length (fun n i wr => ∃ k : Nat, k + n = l.length ∧ i = .int .i64 (k : Int) ∧ Aside0 (ListAt w (prevT l k) wr ∧ errG l n k = R ∧ PrevOk l k))
  case atStart => exact ⟨0, by omega, rfl, ⟨⟨heap_new w _, (Below.refl _ w).alloc (Nat.le_refl _) _⟩, HR.out, prevOk_zero l⟩⟩
  case round =>
    obtain ⟨k, hk, rfl, hAA⟩ := hrel
    have hA := Aside0.mk hAA.out.1
    have hE := Aside0.mk hAA.out.2.1
    have hP := Aside0.mk hAA.out.2.2
    clear hAA HR
    by_cases hlt : k < l.length
    · have hbel := hA.out.below
      have hbz := heap_lt hA.out.box
      obtain ⟨p1, p2, p3, p4, p5⟩ := hP.out
      clear hP
      have hsz := HZ.out l[k] (List.getElem_mem hlt)
      have HTE0 := fun W (hW : Pow W) => tokenError_any l[k] (prevT l k) W hW hsz p1 p2 p3 p4 p5
      have hnext : prevT l (k + 1) = l[k] := by simp [prevT, hlt]
      obtain ⟨q0, q1, q2, q3, q4, q5⟩ := (HTK.out.below hbel).cell (List.getElem?_eq_getElem hlt)
      have hAb := hA.out.box
      have hgo := errG_go (l := l) (k := k) hlt
      have hstop := errG_stop (l := l) (k := k) hlt
      have hpok := prevOk_succ l k hlt hsz
      generalize errT (some (prevT l k)) l[k] = E at HTE0 hgo hstop hpok
      generalize l[k] = t at HTE0 hnext q0 q1 q2 q3 q4 q5
      generalize prevT l k = b at HTE0 hA hAb
      obtain ⟨tk, tn, tx, ta, tl, tc⟩ := t
      obtain ⟨bk, bn, bx, ba, bl, bc⟩ := b
      simp only [Tok.cells] at *
      have HTE := Aside0.mk HTE0; clear HTE0
      have HN := Aside0.mk hnext; clear hnext
      have b0 : wr.cell? ⟨w.heap.size, 0, none⟩ = some (.int .i64 bk) := cell_of hAb 0
      have b1 : wr.cell? ⟨w.heap.size, 1, none⟩ = some (.int .i64 bn) := cell_of hAb 1
      have b2 : wr.cell? ⟨w.heap.size, 2, none⟩ = some (.string bx) := cell_of hAb 2
      have b3 : wr.cell? ⟨w.heap.size, 3, none⟩ = some (.int .i64 ba) := cell_of hAb 3
      have b4 : wr.cell? ⟨w.heap.size, 4, none⟩ = some (.int .i64 bl) := cell_of hAb 4
      have b5 : wr.cell? ⟨w.heap.size, 5, none⟩ = some (.int .i64 bc) := cell_of hAb 5
      have HAB := Aside0.mk hAb; clear hAb
      have HBE := Aside0.mk hbel; clear hbel
      have hne : w.heap.size ≠ wr.heap.size := by omega
      obtain ⟨n, rfl⟩ : ∃ n, gk = n + 1 := ⟨gk - 1, by omega⟩
      by_cases hz0 : E = 0
      · subst hz0
        have HGO := Aside0.mk ((hgo rfl n).symm.trans hE.out)
        have HPK := Aside0.mk (hpok rfl)
        clear hgo hstop hpok hE
        go_wp2_with (go_at_call 106; (refine (HTE.out _ (HT.out.on (HBE.out.alloc HBE.out.size _))).mono ?_); rintro e w1 ⟨rfl, hb⟩; have HBB := Aside0.mk hb; have e0 := (hb.block wr.heap.size (by simp)).trans (heap_new wr (.cells #[.int .i64 tk, .int .i64 tn, .string tx, .int .i64 ta, .int .i64 tl, .int .i64 tc] 54)); have e1 := (hb.block w.heap.size (by simp; omega)).trans (heap_alloc HAB.out (.cells #[.int .i64 tk, .int .i64 tn, .string tx, .int .i64 ta, .int .i64 tl, .int .i64 tc] 54)); have z0 : w1.cell? ⟨wr.heap.size, 0, none⟩ = some (.int .i64 tk) := cell_of e0 0; have z1 : w1.cell? ⟨wr.heap.size, 1, none⟩ = some (.int .i64 tn) := cell_of e0 1; have z2 : w1.cell? ⟨wr.heap.size, 2, none⟩ = some (.string tx) := cell_of e0 2; have z3 : w1.cell? ⟨wr.heap.size, 3, none⟩ = some (.int .i64 ta) := cell_of e0 3; have z4 : w1.cell? ⟨wr.heap.size, 4, none⟩ = some (.int .i64 tl) := cell_of e0 4; have z5 : w1.cell? ⟨wr.heap.size, 5, none⟩ = some (.int .i64 tc) := cell_of e0 5; have y0 : w1.cell? ⟨w.heap.size, 0, none⟩ = some (.int .i64 bk) := cell_of e1 0; have y1 : w1.cell? ⟨w.heap.size, 1, none⟩ = some (.int .i64 bn) := cell_of e1 1; have y2 : w1.cell? ⟨w.heap.size, 2, none⟩ = some (.string bx) := cell_of e1 2; have y3 : w1.cell? ⟨w.heap.size, 3, none⟩ = some (.int .i64 ba) := cell_of e1 3; have y4 : w1.cell? ⟨w.heap.size, 4, none⟩ = some (.int .i64 bl) := cell_of e1 4; have y5 : w1.cell? ⟨w.heap.size, 5, none⟩ = some (.int .i64 bc) := cell_of e1 5; have yf := fun i => free_of e1 i; have HE1 := Aside0.mk e1; clear hb e0 e1)
        go_roundg n
        case measure => omega
        case rel => exact ⟨k + 1, by omega, by go_num, ⟨⟨by rw [HN.out]; exact set6 HE1.out _ _ _ _ _ _, below_set6 ((HBE.out.alloc HBE.out.size _).trans (HBB.out.mono (by simp; omega))) (Nat.le_refl _) _ _ _ _ _ _⟩, HGO.out, HPK.out⟩⟩
      · have hrr := (hstop hz0 n).symm.trans hE.out
        subst hrr
        have hz1 : (E == 0) = false := by rw [beq_eq_false_iff_ne]; exact hz0
        clear hgo hstop hpok hE
        go_wp2_with (go_at_call 106; (refine (HTE.out _ (HT.out.on (HBE.out.alloc HBE.out.size _))).mono ?_); rintro e w1 ⟨rfl, hb⟩; have HBB := Aside0.mk hb; have e0 := (hb.block wr.heap.size (by simp)).trans (heap_new wr (.cells #[.int .i64 tk, .int .i64 tn, .string tx, .int .i64 ta, .int .i64 tl, .int .i64 tc] 54)); have e1 := (hb.block w.heap.size (by simp; omega)).trans (heap_alloc HAB.out (.cells #[.int .i64 tk, .int .i64 tn, .string tx, .int .i64 ta, .int .i64 tl, .int .i64 tc] 54)); have z0 : w1.cell? ⟨wr.heap.size, 0, none⟩ = some (.int .i64 tk) := cell_of e0 0; have z1 : w1.cell? ⟨wr.heap.size, 1, none⟩ = some (.int .i64 tn) := cell_of e0 1; have z2 : w1.cell? ⟨wr.heap.size, 2, none⟩ = some (.string tx) := cell_of e0 2; have z3 : w1.cell? ⟨wr.heap.size, 3, none⟩ = some (.int .i64 ta) := cell_of e0 3; have z4 : w1.cell? ⟨wr.heap.size, 4, none⟩ = some (.int .i64 tl) := cell_of e0 4; have z5 : w1.cell? ⟨wr.heap.size, 5, none⟩ = some (.int .i64 tc) := cell_of e0 5; have y0 : w1.cell? ⟨w.heap.size, 0, none⟩ = some (.int .i64 bk) := cell_of e1 0; have y1 : w1.cell? ⟨w.heap.size, 1, none⟩ = some (.int .i64 bn) := cell_of e1 1; have y2 : w1.cell? ⟨w.heap.size, 2, none⟩ = some (.string bx) := cell_of e1 2; have y3 : w1.cell? ⟨w.heap.size, 3, none⟩ = some (.int .i64 ba) := cell_of e1 3; have y4 : w1.cell? ⟨w.heap.size, 4, none⟩ = some (.int .i64 bl) := cell_of e1 4; have y5 : w1.cell? ⟨w.heap.size, 5, none⟩ = some (.int .i64 bc) := cell_of e1 5; have yf := fun i => free_of e1 i; have HE1 := Aside0.mk e1; clear hb e0 e1)
        go_ret2
        exact ⟨rfl, (HBE.out.alloc HBE.out.size _).trans (HBB.out.mono (by simp; omega))⟩
    · obtain rfl : k = l.length := by omega
      have hrr := hE.out
      obtain rfl : gk = 0 := by omega
      subst hrr
      go_wp2
      go_ret2
      exact ⟨rfl, hA.out.below⟩
set_option maxRecDepth 100000 in
set_option maxHeartbeats 4000000 in
theorem listError_many (n : Nat) (A : Option Addr) (c : Nat) (w : World) (hn : 4000 < n) (hn2 : n ≤ 1000000) :
    Calls Tryz.prog 67 #[.slice A n c] w fun e w' => e = .returned (.tuple #[.int .i64 0, .int .i64 2]) ∧ Below w.heap.size w w' := by
  have h : (4000 : Int) < (n : Int) := by omega
  go_enter Tryz.func67, Tryz.ntmps67
  go_wp2
  go_ret2
  exact ⟨rfl, Below.refl _ _⟩
theorem listError_any (l : List Tok) (A : Option Addr) (c : Nat) (w : World) (ht : Pow w) (hl : l.length ≤ 1000000) (hz : ∀ t ∈ l, t.text.size ≤ 65536) (hT : l = [] ∨ ∃ g, A = some ⟨g, 0, none⟩ ∧ TokAt g l w) :
    Calls Tryz.prog 67 #[.slice A l.length c] w fun e w' => e = .returned (.tuple #[.int .i64 (errL l).1, .int .i64 (errL l).2]) ∧ Below w.heap.size w w' := by
  by_cases h : 4000 < l.length
  · have he : errL l = (0, 2) := by unfold errL; rw [if_pos h]
    rw [he]
    exact listError_many _ A c w h hl
  · rcases hT with rfl | ⟨g, rfl, hT⟩
    · exact listError_nil A c w
    · exact listError_go l g c w ht (by omega) hz hT
end Go.Proofs.YtfnhjdehlikbaaaGreatDoor.Lx
namespace Go.Proofs.YtfnhjdehlikbaaaGreatDoor.Lx
open Go.RowKit Go.Proofs.YtfnhjdehlikbaaaGreatDoorW.PrintWords
theorem cut_bad (tx : ByteArray) (hs : tx.size ≤ 65536) {k n : Int} (h : cutB k n tx = false) : ∃ r1 r2 r3 r7 r8, (∀ W, CutTo tx 0 W r1 r2 r3 r7 r8) ∧
    (r8 = false ∨ (r8 = true ∧ 0 ≤ r7) ∨ (r8 = true ∧ r7 < 0 ∧ r1 ≠ k) ∨ (r8 = true ∧ r7 < 0 ∧ k = r1 ∧ r3.toList ≠ tx.toList) ∨ (r8 = true ∧ r7 < 0 ∧ k = r1 ∧ tx = r3 ∧ r2 ≠ n)) := by
  by_cases hz : tx.size = 0
  · exact ⟨_, _, _, _, _, fun W => cut_end tx 0 W (by omega), .inl rfl⟩
  · have hr := refCut_any tx (by omega) 0 (by omega) (by omega)
    by_cases hk : kindOf (bt tx 0) = 0
    · rw [if_pos hk] at hr
      exact ⟨_, _, _, _, _, hr, .inl rfl⟩
    · rw [if_neg hk] at hr
      obtain ⟨v, hv, hw⟩ := hr
      refine ⟨_, _, _, _, _, hw, .inr ?_⟩
      by_cases hb : (nextOf tx 0 (kindOf (bt tx 0))).2 < 0
      · rw [ab_neg hb]
        refine .inr ?_
        by_cases h1 : (nextOf tx 0 (kindOf (bt tx 0))).1.kind = k
        · refine .inr ?_
          by_cases h2 : (nextOf tx 0 (kindOf (bt tx 0))).1.text.toList = tx.toList
          · refine .inr ⟨rfl, by omega, h1.symm, ?_, ?_⟩
            · rw [ByteArray.toList_eq, ByteArray.toList_eq] at h2
              exact (ByteArray.ext (Array.toList_inj.1 h2)).symm
            · rw [hv hb]
              intro h3
              unfold cutB at h
              rw [decide_eq_true (show 0 < tx.size by omega), decide_eq_true hk, decide_eq_true hb, decide_eq_true h1, decide_eq_true h3, h2] at h
              simp at h
          · exact .inl ⟨rfl, by omega, h1.symm, h2⟩
        · exact .inl ⟨rfl, by omega, h1⟩
      · rw [ab_pos hb]
        exact .inl ⟨rfl, by omega⟩
set_option maxRecDepth 100000 in
set_option maxHeartbeats 32000000 in
theorem refRight_go (l : List Tok) (A : Option Addr) (c : Nat) (w : World) (hl : l.length ≤ 4000) (hz : ∀ t ∈ l, t.text.size ≤ 65536) (hT : SrcC A l w) :
    Calls Tryz.prog 108 #[.slice A l.length c] w fun e w' => e = .returned (.tuple #[.int .i64 (errL l).1, .int .i64 (errL l).2]) ∧ Below w.heap.size w w' := by
  have HZ := Aside0.mk hz
  have HS := Aside0.mk hT
  clear hz hT
  obtain ⟨n, hn⟩ : ∃ n, l.length = n := ⟨_, rfl⟩
  obtain ⟨R, hR⟩ : ∃ R, errL l = R := ⟨_, rfl⟩
  have HR : Aside0 (errG l n 0 = R) := ⟨by rw [← hR]; unfold errL; rw [if_neg (by omega), hn]⟩
  rw [hR, hn]
  rw [hn] at hl
  have HN := Aside0.mk hn
  clear hn hR
  go_enter Tryz.func108, Tryz.ntmps108
  go_wp2
  go_loopg [4] n (fun f t4 wr => ∃ i : Nat, t4 = .int .i64 (i : Int) ∧ i + f = n ∧ Aside0 (Below w.heap.size w wr ∧ errG l f i = R ∧ PrevOk l i))
  case atStart => exact ⟨0, rfl, by omega, ⟨Below.refl _ _, HR.out, prevOk_zero l⟩⟩
  case round =>
    obtain ⟨i, rfl, hif, hA⟩ := hrel
    have HB := Aside0.mk hA.out.1
    have hR1 := hA.out.2.1
    have HPO := Aside0.mk hA.out.2.2
    clear hA HR
    by_cases hi : i < n
    · obtain ⟨f, rfl⟩ : ∃ f, gk = f + 1 := ⟨gk - 1, by omega⟩
      have hlt : i < l.length := by rw [HN.out]; exact hi
      have hi2 : (i : Int) < (n : Int) := by omega
      have hti := List.getElem?_eq_getElem hlt
      have hsz := HZ.out _ (List.getElem_mem hlt)
      have hstop : ¬ errT (some (prevT l i)) l[i] = 0 → R = ((i : Int), errT (some (prevT l i)) l[i]) := fun h => hR1.symm.trans (errG_stop hlt h f)
      have hgo : errT (some (prevT l i)) l[i] = 0 → errG l f (i + 1) = R := fun h => (errG_go hlt h f).symm.trans hR1
      have hpok := prevOk_succ l i hlt hsz
      have HSB := Aside0.mk (HS.out.below HB.out)
      obtain ⟨g, hAg, x0, x1, x2, x3, x4, x5⟩ := HSB.out i _ hti
      generalize hE : errT (some (prevT l i)) l[i] = E at hstop hgo hpok
      generalize l[i] = t at hE hsz x0 x1 x2 x3 x4 x5
      obtain ⟨tk, tn, tx, ta, tl, tc⟩ := t
      simp only at x0 x1 x2 x3 x4 x5 hsz
      have hgw : g < wr.heap.size := World.block_lt_of_cell? _ _ x0
      subst hAg
      clear hti hlt hR1
      by_cases hrn : ranT ⟨tk, tn, tx, ta, tl, tc⟩ = true
      · have hrr : R = ((i : Int), 3) := (hstop (by rw [← hE]; unfold errT; rw [if_pos hrn]; decide)).trans (by rw [← hE]; unfold errT; rw [if_pos hrn])
        subst hrr
        unfold ranT at hrn
        simp only [Bool.or_eq_true, decide_eq_true_eq] at hrn
        clear hstop hgo hE HPO hpok
        by_cases r0 : tk < 1
        · have n1 : decide (tk < 1) = true := by simp; omega
          clear hrn
          go_wp2
          go_ret2
          exact ⟨rfl, HB.out.alloc HB.out.size _⟩
        · have n1 : decide (tk < 1) = false := by simp; omega
          by_cases r1 : 4 < tk
          · have n2 : decide (tk > 4) = true := by simp; omega
            clear hrn
            go_wp2
            go_ret2
            exact ⟨rfl, HB.out.alloc HB.out.size _⟩
          · have n2 : decide (tk > 4) = false := by simp; omega
            by_cases r2 : ta < 0
            · have n3 : decide (ta < 0) = true := by simp; omega
              clear hrn
              go_wp2
              go_ret2
              exact ⟨rfl, HB.out.alloc HB.out.size _⟩
            · have n3 : decide (ta < 0) = false := by simp; omega
              by_cases r3 : 65536 < ta
              · have n4 : decide (ta > 65536) = true := by simp; omega
                clear hrn
                go_wp2
                go_ret2
                exact ⟨rfl, HB.out.alloc HB.out.size _⟩
              · have n4 : decide (ta > 65536) = false := by simp; omega
                by_cases r4 : tl < 0
                · have n5 : decide (tl < 0) = true := by simp; omega
                  clear hrn
                  go_wp2
                  go_ret2
                  exact ⟨rfl, HB.out.alloc HB.out.size _⟩
                · have n5 : decide (tl < 0) = false := by simp; omega
                  by_cases r5 : 65536 < tl
                  · have n6 : decide (tl > 65536) = true := by simp; omega
                    clear hrn
                    go_wp2
                    go_ret2
                    exact ⟨rfl, HB.out.alloc HB.out.size _⟩
                  · have n6 : decide (tl > 65536) = false := by simp; omega
                    by_cases r6 : tc < 0
                    · have n7 : decide (tc < 0) = true := by simp; omega
                      clear hrn
                      go_wp2
                      go_ret2
                      exact ⟨rfl, HB.out.alloc HB.out.size _⟩
                    · have n7 : decide (tc < 0) = false := by simp; omega
                      have n8 : decide (tc > 65536) = true := by simp; omega
                      clear hrn
                      go_wp2
                      go_ret2
                      exact ⟨rfl, HB.out.alloc HB.out.size _⟩
      · have hr0 : ranT ⟨tk, tn, tx, ta, tl, tc⟩ = false := by simpa using hrn
        have hr1 := hr0
        unfold ranT at hr1
        simp only [Bool.or_eq_false_iff, decide_eq_false_iff_not] at hr1
        have n1 : decide (tk < 1) = false := by simp; omega
        have n2 : decide (tk > 4) = false := by simp; omega
        have n3 : decide (ta < 0) = false := by simp; omega
        have n4 : decide (ta > 65536) = false := by simp; omega
        have n5 : decide (tl < 0) = false := by simp; omega
        have n6 : decide (tl > 65536) = false := by simp; omega
        have n7 : decide (tc < 0) = false := by simp; omega
        have n8 : decide (tc > 65536) = false := by simp; omega
        have hkk : (tk != tk) = false := bne_self_eq_false _
        have hnn : (tn != tn) = false := bne_self_eq_false _
        have hxx : (tx.toList != tx.toList) = false := bne_self_eq_false _
        by_cases hw : WfT ⟨tk, tn, tx, ta, tl, tc⟩
        · have hcb := cutB_of hw
          have HC : Aside0 (∀ W : World, Calls Tryz.prog 81 #[.string tx, .int .i64 0] W fun e w' => e = .returned (.tuple #[.agg #[.int .i64 tk, .int .i64 tn, .string tx, .int .i64 0, .int .i64 0, .int .i64 0], .int .i64 (-1), .bool true]) ∧ Below W.heap.size W w') := ⟨cut_good hw hsz⟩
          have hnd : (tx.toList == [45, 45]) = false := no_dash hw
          by_cases h0 : i = 0
          · have he0 : errT (some (prevT l i)) ⟨tk, tn, tx, ta, tl, tc⟩ = 0 := by
              rw [h0]
              show errT (some tokZ) _ = 0
              rw [errT_zero]
              unfold errT
              rw [if_neg (by rw [hr0]; decide), if_pos hcb]
            have HGO := Aside0.mk (hgo (by rw [← hE]; exact he0))
            have HPK := Aside0.mk (hpok (by rw [← hE]; exact he0))
            clear he0
            have hgt0 : decide ((i : Int) > 0) = false := by simp; omega
            have hgt1 : decide (0 < (i : Int)) = false := by simp; omega
            have hgt2 : decide (0 < i) = false := by simp; omega
            clear h0 hstop hgo hE HPO hpok hcb hw hr0 hr1 hrn
            go_wp2_with (go_at_call 81; (with_reducible refine (HC.out _).mono ?_); rintro e w2 ⟨rfl, hb⟩; have HCB := Aside0.mk (((Below.refl _ wr).alloc (Nat.le_refl _) (.cells #[.int .i64 tk, .int .i64 tn, .string tx, .int .i64 ta, .int .i64 tl, .int .i64 tc] 121)).trans (hb.mono (by simp))); have hb2 := hb.block wr.heap.size (by simp); obtain ⟨y0, y1, y2, y3, y4, y5⟩ := (BoxAt.mk (t := ⟨tk, tn, tx, ta, tl, tc⟩) (hb2.trans (heap_new wr _))).cells; simp only at y0 y1 y2 y3 y4 y5; have hw2 : wr.heap.size < w2.heap.size := Nat.lt_of_lt_of_le (by simp) hb.size; clear hb hb2)
            go_roundg f
            case measure => omega
            case rel => exact ⟨i + 1, by go_num, by omega, ⟨HB.out.trans ((HCB.out.alloc HCB.out.size _).mono HB.out.size), HGO.out, HPK.out⟩⟩
          · have hgt0 : decide ((i : Int) > 0) = true := by simp; omega
            have hgt1 : decide (0 < (i : Int)) = true := by simp; omega
            have hgt2 : decide (0 < i) = true := by simp; omega
            obtain ⟨m, hm⟩ : ∃ m : Nat, i = m + 1 := ⟨i - 1, by omega⟩
            have hm1 : m < l.length := by rw [HN.out]; omega
            have hpv : prevT l i = l[m] := by rw [hm]; simp [prevT, hm1]
            have hsm : ∀ W, SrcC (some ⟨g, 0, none⟩) l W → W.cell? ⟨g, m * 6, none⟩ = some (.int .i64 l[m].kind) ∧ W.cell? ⟨g, m * 6 + 1, none⟩ = some (.int .i64 l[m].num) ∧ W.cell? ⟨g, m * 6 + 2, none⟩ = some (.string l[m].text) ∧ W.cell? ⟨g, m * 6 + 3, none⟩ = some (.int .i64 l[m].at_) ∧ W.cell? ⟨g, m * 6 + 4, none⟩ = some (.int .i64 l[m].line) ∧ W.cell? ⟨g, m * 6 + 5, none⟩ = some (.int .i64 l[m].col) := fun W h => by
              obtain ⟨g', hAg', hh⟩ := h m _ (List.getElem?_eq_getElem hm1)
              injection hAg' with hAg'
              injection hAg' with hAg'
              subst hAg'
              exact hh
            have hpo := HPO.out
            unfold PrevOk at hpo
            rw [hpv] at hE hpo
            generalize l[m] = u at hE hpo hsm
            obtain ⟨bk, bn, bx, ba, bl, bc⟩ := u
            simp only at hsm hpo
            have HSM := Aside0.mk hsm
            obtain ⟨r1, r2, r3, r4, r5⟩ := hpo
            have wm : IntKind.i64.wrap ((i : Int) - 1) = (m : Int) := by rw [IntWalk.i64_in _ (by omega)]; omega
            have hmn : (m : Int) < (n : Int) := by omega
            have hm0 : (0 : Int) ≤ (m : Int) := by omega
            have wc : IntKind.i64.wrap (bc + (bx.size : Int)) = bc + bx.size := IntWalk.i64_in _ (by omega)
            have wa : IntKind.i64.wrap (ba + (bx.size : Int)) = ba + bx.size := IntWalk.i64_in _ (by omega)
            have heq : errT (some ⟨bk, bn, bx, ba, bl, bc⟩) ⟨tk, tn, tx, ta, tl, tc⟩ = if ordT ⟨bk, bn, bx, ba, bl, bc⟩ ⟨tk, tn, tx, ta, tl, tc⟩ = true then 15 else 0 := by unfold errT; rw [if_neg (by rw [hr0]; decide), if_pos hcb]
            by_cases ho : ordT ⟨bk, bn, bx, ba, bl, bc⟩ ⟨tk, tn, tx, ta, tl, tc⟩ = true
            · rw [if_pos ho] at heq
              have hrr : R = ((i : Int), 15) := (hstop (by rw [← hE, heq]; decide)).trans (by rw [← hE, heq])
              subst hrr
              unfold ordT at ho
              simp only [Bool.or_eq_true, Bool.and_eq_true, decide_eq_true_eq] at ho
              clear hsm h0 hm hm1 hpv hstop hgo hE HPO hpok hcb hw hr0 hr1 hrn heq r1 r2 r3 r4 r5
              by_cases o1 : tl < bl
              · have o2 : decide (tl < bl) = true := by simp; omega
                clear ho
                go_wp2_with (go_at_call 81; (with_reducible refine (HC.out _).mono ?_); rintro e w2 ⟨rfl, hb⟩; have HCB := Aside0.mk (((Below.refl _ wr).alloc (Nat.le_refl _) (.cells #[.int .i64 tk, .int .i64 tn, .string tx, .int .i64 ta, .int .i64 tl, .int .i64 tc] 121)).trans (hb.mono (by simp))); have hb2 := hb.block wr.heap.size (by simp); obtain ⟨y0, y1, y2, y3, y4, y5⟩ := (BoxAt.mk (t := ⟨tk, tn, tx, ta, tl, tc⟩) (hb2.trans (heap_new wr _))).cells; simp only at y0 y1 y2 y3 y4 y5; have hw2 : wr.heap.size < w2.heap.size := Nat.lt_of_lt_of_le (by simp) hb.size; obtain ⟨z0, z1, z2, z3, z4, z5⟩ := HSM.out w2 (HSB.out.below HCB.out); have hgw2 : g < w2.heap.size := World.block_lt_of_cell? _ _ z0; clear hb hb2)
                go_ret2
                exact ⟨rfl, HB.out.trans (((HCB.out.alloc HCB.out.size _).alloc (HCB.out.alloc HCB.out.size _).size _).mono HB.out.size)⟩
              · have o2 : decide (tl < bl) = false := by simp; omega
                by_cases o3 : tl = bl
                · subst o3
                  have o4 : (tl == tl) = true := beq_self_eq_true _
                  by_cases o5 : tc < bc + (bx.size : Int)
                  · have o6 : decide (tc < bc + (bx.size : Int)) = true := by simp; omega
                    clear ho
                    go_wp2_with (go_at_call 81; (with_reducible refine (HC.out _).mono ?_); rintro e w2 ⟨rfl, hb⟩; have HCB := Aside0.mk (((Below.refl _ wr).alloc (Nat.le_refl _) (.cells #[.int .i64 tk, .int .i64 tn, .string tx, .int .i64 ta, .int .i64 tl, .int .i64 tc] 121)).trans (hb.mono (by simp))); have hb2 := hb.block wr.heap.size (by simp); obtain ⟨y0, y1, y2, y3, y4, y5⟩ := (BoxAt.mk (t := ⟨tk, tn, tx, ta, tl, tc⟩) (hb2.trans (heap_new wr _))).cells; simp only at y0 y1 y2 y3 y4 y5; have hw2 : wr.heap.size < w2.heap.size := Nat.lt_of_lt_of_le (by simp) hb.size; obtain ⟨z0, z1, z2, z3, z4, z5⟩ := HSM.out w2 (HSB.out.below HCB.out); have hgw2 : g < w2.heap.size := World.block_lt_of_cell? _ _ z0; clear hb hb2)
                    go_ret2
                    exact ⟨rfl, HB.out.trans (((HCB.out.alloc HCB.out.size _).alloc (HCB.out.alloc HCB.out.size _).size _).mono HB.out.size)⟩
                  · have o6 : decide (tc < bc + (bx.size : Int)) = false := by simp; omega
                    have o7 : decide (ta < ba + (bx.size : Int)) = true := by simp; omega
                    clear ho
                    go_wp2_with (go_at_call 81; (with_reducible refine (HC.out _).mono ?_); rintro e w2 ⟨rfl, hb⟩; have HCB := Aside0.mk (((Below.refl _ wr).alloc (Nat.le_refl _) (.cells #[.int .i64 tk, .int .i64 tn, .string tx, .int .i64 ta, .int .i64 tl, .int .i64 tc] 121)).trans (hb.mono (by simp))); have hb2 := hb.block wr.heap.size (by simp); obtain ⟨y0, y1, y2, y3, y4, y5⟩ := (BoxAt.mk (t := ⟨tk, tn, tx, ta, tl, tc⟩) (hb2.trans (heap_new wr _))).cells; simp only at y0 y1 y2 y3 y4 y5; have hw2 : wr.heap.size < w2.heap.size := Nat.lt_of_lt_of_le (by simp) hb.size; obtain ⟨z0, z1, z2, z3, z4, z5⟩ := HSM.out w2 (HSB.out.below HCB.out); have hgw2 : g < w2.heap.size := World.block_lt_of_cell? _ _ z0; clear hb hb2)
                    go_ret2
                    exact ⟨rfl, HB.out.trans (((HCB.out.alloc HCB.out.size _).alloc (HCB.out.alloc HCB.out.size _).size _).mono HB.out.size)⟩
                · have o4 : (tl == bl) = false := beq_eq_false_iff_ne.2 o3
                  have o7 : decide (ta < ba + (bx.size : Int)) = true := by simp; omega
                  clear ho
                  go_wp2_with (go_at_call 81; (with_reducible refine (HC.out _).mono ?_); rintro e w2 ⟨rfl, hb⟩; have HCB := Aside0.mk (((Below.refl _ wr).alloc (Nat.le_refl _) (.cells #[.int .i64 tk, .int .i64 tn, .string tx, .int .i64 ta, .int .i64 tl, .int .i64 tc] 121)).trans (hb.mono (by simp))); have hb2 := hb.block wr.heap.size (by simp); obtain ⟨y0, y1, y2, y3, y4, y5⟩ := (BoxAt.mk (t := ⟨tk, tn, tx, ta, tl, tc⟩) (hb2.trans (heap_new wr _))).cells; simp only at y0 y1 y2 y3 y4 y5; have hw2 : wr.heap.size < w2.heap.size := Nat.lt_of_lt_of_le (by simp) hb.size; obtain ⟨z0, z1, z2, z3, z4, z5⟩ := HSM.out w2 (HSB.out.below HCB.out); have hgw2 : g < w2.heap.size := World.block_lt_of_cell? _ _ z0; clear hb hb2)
                  go_ret2
                  exact ⟨rfl, HB.out.trans (((HCB.out.alloc HCB.out.size _).alloc (HCB.out.alloc HCB.out.size _).size _).mono HB.out.size)⟩
            · rw [if_neg ho] at heq
              have HGO := Aside0.mk (hgo (by rw [← hE]; exact heq))
              have HPK := Aside0.mk (hpok (by rw [← hE]; exact heq))
              have ho : ordT ⟨bk, bn, bx, ba, bl, bc⟩ ⟨tk, tn, tx, ta, tl, tc⟩ = false := by simpa using ho
              unfold ordT at ho
              simp only [Bool.or_eq_false_iff, Bool.and_eq_false_iff, decide_eq_false_iff_not] at ho
              have o1 : decide (tl < bl) = false := by simp; omega
              have o2 : decide (ta < ba + (bx.size : Int)) = false := by simp; omega
              clear hsm h0 hm hm1 hpv hstop hgo hE HPO hpok hcb hw hr0 hr1 hrn heq r1 r2 r3 r4 r5
              by_cases he : tl = bl
              · have o3 : (tl == bl) = true := by rw [he]; exact beq_self_eq_true _
                have o4 : decide (tc < bc + (bx.size : Int)) = false := by simp; rcases ho.2.1 with h | h <;> omega
                clear he ho
                go_wp2_with (go_at_call 81; (with_reducible refine (HC.out _).mono ?_); rintro e w2 ⟨rfl, hb⟩; have HCB := Aside0.mk (((Below.refl _ wr).alloc (Nat.le_refl _) (.cells #[.int .i64 tk, .int .i64 tn, .string tx, .int .i64 ta, .int .i64 tl, .int .i64 tc] 121)).trans (hb.mono (by simp))); have hb2 := hb.block wr.heap.size (by simp); obtain ⟨y0, y1, y2, y3, y4, y5⟩ := (BoxAt.mk (t := ⟨tk, tn, tx, ta, tl, tc⟩) (hb2.trans (heap_new wr _))).cells; simp only at y0 y1 y2 y3 y4 y5; have hw2 : wr.heap.size < w2.heap.size := Nat.lt_of_lt_of_le (by simp) hb.size; obtain ⟨z0, z1, z2, z3, z4, z5⟩ := HSM.out w2 (HSB.out.below HCB.out); have hgw2 : g < w2.heap.size := World.block_lt_of_cell? _ _ z0; clear hb hb2)
                go_roundg f
                case measure => omega
                case rel => exact ⟨i + 1, by go_num, by omega, ⟨HB.out.trans (((HCB.out.alloc HCB.out.size _).alloc (HCB.out.alloc HCB.out.size _).size _).mono HB.out.size), HGO.out, HPK.out⟩⟩
              · have o3 : (tl == bl) = false := beq_eq_false_iff_ne.2 he
                clear he ho
                go_wp2_with (go_at_call 81; (with_reducible refine (HC.out _).mono ?_); rintro e w2 ⟨rfl, hb⟩; have HCB := Aside0.mk (((Below.refl _ wr).alloc (Nat.le_refl _) (.cells #[.int .i64 tk, .int .i64 tn, .string tx, .int .i64 ta, .int .i64 tl, .int .i64 tc] 121)).trans (hb.mono (by simp))); have hb2 := hb.block wr.heap.size (by simp); obtain ⟨y0, y1, y2, y3, y4, y5⟩ := (BoxAt.mk (t := ⟨tk, tn, tx, ta, tl, tc⟩) (hb2.trans (heap_new wr _))).cells; simp only at y0 y1 y2 y3 y4 y5; have hw2 : wr.heap.size < w2.heap.size := Nat.lt_of_lt_of_le (by simp) hb.size; obtain ⟨z0, z1, z2, z3, z4, z5⟩ := HSM.out w2 (HSB.out.below HCB.out); have hgw2 : g < w2.heap.size := World.block_lt_of_cell? _ _ z0; clear hb hb2)
                go_roundg f
                case measure => omega
                case rel => exact ⟨i + 1, by go_num, by omega, ⟨HB.out.trans (((HCB.out.alloc HCB.out.size _).alloc (HCB.out.alloc HCB.out.size _).size _).mono HB.out.size), HGO.out, HPK.out⟩⟩
        · have hcb : cutB tk tn tx = false := by
            cases h : cutB tk tn tx with
            | false => rfl
            | true => exact absurd (cutB_iff ⟨tk, tn, tx, ta, tl, tc⟩ h) hw
          have he4 : ∀ b, errT b ⟨tk, tn, tx, ta, tl, tc⟩ = 4 := fun b => by unfold errT; rw [if_neg (by rw [hr0]; decide), if_neg (by rw [hcb]; decide)]
          have hrr : R = ((i : Int), 4) := (hstop (by rw [← hE, he4]; decide)).trans (by rw [← hE, he4])
          subst hrr
          obtain ⟨r1, r2, r3, r7, r8, hcut, hbad⟩ := cut_bad tx hsz hcb
          have HC : Aside0 (∀ W : World, Calls Tryz.prog 81 #[.string tx, .int .i64 0] W fun e w' => e = .returned (.tuple #[.agg #[.int .i64 r1, .int .i64 r2, .string r3, .int .i64 0, .int .i64 0, .int .i64 0], .int .i64 r7, .bool r8]) ∧ Below W.heap.size W w') := ⟨hcut⟩
          clear hcut hstop hgo hE HPO hpok hcb hw hr0 hr1 hrn he4
          rcases hbad with rfl | ⟨rfl, hb0⟩ | ⟨rfl, hb0, hb1⟩ | ⟨rfl, hb0, rfl, hb1⟩ | ⟨rfl, hb0, rfl, rfl, hb1⟩
          · go_wp2_with (go_at_call 81; (with_reducible refine (HC.out _).mono ?_); rintro e w2 ⟨rfl, hb⟩; have HCB := Aside0.mk (((Below.refl _ wr).alloc (Nat.le_refl _) (.cells #[.int .i64 tk, .int .i64 tn, .string tx, .int .i64 ta, .int .i64 tl, .int .i64 tc] 121)).trans (hb.mono (by simp))); have hb2 := hb.block wr.heap.size (by simp); obtain ⟨y0, y1, y2, y3, y4, y5⟩ := (BoxAt.mk (t := ⟨tk, tn, tx, ta, tl, tc⟩) (hb2.trans (heap_new wr _))).cells; simp only at y0 y1 y2 y3 y4 y5; have hw2 : wr.heap.size < w2.heap.size := Nat.lt_of_lt_of_le (by simp) hb.size; clear hb hb2)
            go_ret2
            exact ⟨rfl, HB.out.trans ((HCB.out.alloc HCB.out.size _).mono HB.out.size)⟩
          · have d1 : decide (r7 ≥ 0) = true := by simp; omega
            have d2 : decide (0 ≤ r7) = true := by simp; omega
            go_wp2_with (go_at_call 81; (with_reducible refine (HC.out _).mono ?_); rintro e w2 ⟨rfl, hb⟩; have HCB := Aside0.mk (((Below.refl _ wr).alloc (Nat.le_refl _) (.cells #[.int .i64 tk, .int .i64 tn, .string tx, .int .i64 ta, .int .i64 tl, .int .i64 tc] 121)).trans (hb.mono (by simp))); have hb2 := hb.block wr.heap.size (by simp); obtain ⟨y0, y1, y2, y3, y4, y5⟩ := (BoxAt.mk (t := ⟨tk, tn, tx, ta, tl, tc⟩) (hb2.trans (heap_new wr _))).cells; simp only at y0 y1 y2 y3 y4 y5; have hw2 : wr.heap.size < w2.heap.size := Nat.lt_of_lt_of_le (by simp) hb.size; clear hb hb2)
            go_ret2
            exact ⟨rfl, HB.out.trans ((HCB.out.alloc HCB.out.size _).mono HB.out.size)⟩
          · have d1 : decide (r7 ≥ 0) = false := by simp; omega
            have d2 : decide (0 ≤ r7) = false := by simp; omega
            have d3 : (r1 != tk) = true := by simpa using hb1
            go_wp2_with (go_at_call 81; (with_reducible refine (HC.out _).mono ?_); rintro e w2 ⟨rfl, hb⟩; have HCB := Aside0.mk (((Below.refl _ wr).alloc (Nat.le_refl _) (.cells #[.int .i64 tk, .int .i64 tn, .string tx, .int .i64 ta, .int .i64 tl, .int .i64 tc] 121)).trans (hb.mono (by simp))); have hb2 := hb.block wr.heap.size (by simp); obtain ⟨y0, y1, y2, y3, y4, y5⟩ := (BoxAt.mk (t := ⟨tk, tn, tx, ta, tl, tc⟩) (hb2.trans (heap_new wr _))).cells; simp only at y0 y1 y2 y3 y4 y5; have hw2 : wr.heap.size < w2.heap.size := Nat.lt_of_lt_of_le (by simp) hb.size; clear hb hb2)
            go_ret2
            exact ⟨rfl, HB.out.trans ((HCB.out.alloc HCB.out.size _).mono HB.out.size)⟩
          · have d1 : decide (r7 ≥ 0) = false := by simp; omega
            have d2 : decide (0 ≤ r7) = false := by simp; omega
            have d3 : (r3.toList != tx.toList) = true := by simpa using hb1
            go_wp2_with (go_at_call 81; (with_reducible refine (HC.out _).mono ?_); rintro e w2 ⟨rfl, hb⟩; have HCB := Aside0.mk (((Below.refl _ wr).alloc (Nat.le_refl _) (.cells #[.int .i64 tk, .int .i64 tn, .string tx, .int .i64 ta, .int .i64 tl, .int .i64 tc] 121)).trans (hb.mono (by simp))); have hb2 := hb.block wr.heap.size (by simp); obtain ⟨y0, y1, y2, y3, y4, y5⟩ := (BoxAt.mk (t := ⟨tk, tn, tx, ta, tl, tc⟩) (hb2.trans (heap_new wr _))).cells; simp only at y0 y1 y2 y3 y4 y5; have hw2 : wr.heap.size < w2.heap.size := Nat.lt_of_lt_of_le (by simp) hb.size; clear hb hb2)
            go_ret2
            exact ⟨rfl, HB.out.trans ((HCB.out.alloc HCB.out.size _).mono HB.out.size)⟩
          · have d1 : decide (r7 ≥ 0) = false := by simp; omega
            have d2 : decide (0 ≤ r7) = false := by simp; omega
            have d3 : (r2 != tn) = true := by simpa using hb1
            go_wp2_with (go_at_call 81; (with_reducible refine (HC.out _).mono ?_); rintro e w2 ⟨rfl, hb⟩; have HCB := Aside0.mk (((Below.refl _ wr).alloc (Nat.le_refl _) (.cells #[.int .i64 tk, .int .i64 tn, .string tx, .int .i64 ta, .int .i64 tl, .int .i64 tc] 121)).trans (hb.mono (by simp))); have hb2 := hb.block wr.heap.size (by simp); obtain ⟨y0, y1, y2, y3, y4, y5⟩ := (BoxAt.mk (t := ⟨tk, tn, tx, ta, tl, tc⟩) (hb2.trans (heap_new wr _))).cells; simp only at y0 y1 y2 y3 y4 y5; have hw2 : wr.heap.size < w2.heap.size := Nat.lt_of_lt_of_le (by simp) hb.size; clear hb hb2)
            go_ret2
            exact ⟨rfl, HB.out.trans ((HCB.out.alloc HCB.out.size _).mono HB.out.size)⟩
    · obtain rfl : i = n := by omega
      have hf : gk = 0 := by omega
      subst hf
      have hrr : (0, 0) = R := hR1
      subst hrr
      go_wp2
      go_ret2
      exact ⟨rfl, HB.out⟩
set_option maxRecDepth 100000 in
set_option maxHeartbeats 4000000 in
theorem refRight_many (n : Nat) (A : Option Addr) (c : Nat) (w : World) (hn : 4000 < n) (hn2 : n ≤ 1000000) :
    Calls Tryz.prog 108 #[.slice A n c] w fun e w' => e = .returned (.tuple #[.int .i64 0, .int .i64 2]) ∧ Below w.heap.size w w' := by
  have h : (4000 : Int) < (n : Int) := by omega
  go_enter Tryz.func108, Tryz.ntmps108
  go_wp2
  go_ret2
  exact ⟨rfl, Below.refl _ _⟩
theorem refRight_all (l : List Tok) (A : Option Addr) (c : Nat) (w : World) (hl : l.length ≤ 1000000) (hz : ∀ t ∈ l, t.text.size ≤ 65536) (hT : SrcC A l w) :
    Calls Tryz.prog 108 #[.slice A l.length c] w fun e w' => e = .returned (.tuple #[.int .i64 (errL l).1, .int .i64 (errL l).2]) ∧ Below w.heap.size w w' := by
  by_cases h : 4000 < l.length
  · have he : errL l = (0, 2) := by unfold errL; rw [if_pos h]
    rw [he]
    exact refRight_many _ A c w h hl
  · exact refRight_go l A c w (by omega) hz hT
end Go.Proofs.YtfnhjdehlikbaaaGreatDoor.Lx
