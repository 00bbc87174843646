import Derived.Test.YtfnhjdehlikbaaaGreatDoorM1
import Derived.Test.YtfnhjdehlikbaaaGreatDoorS1
import Derived.Shelf.Strconv.Itoa3
import Derived.Deep.DeepCutAuto
set_option linter.unusedVariables false
set_option linter.unusedSimpArgs false
namespace Go.Proofs.YtfnhjdehlikbaaaGreatDoor.Lx
open Go.RowKit Go.Proofs.YtfnhjdehlikbaaaGreatDoorW.PrintWords
set_option maxRecDepth 100000 in
set_option maxHeartbeats 4000000 in
theorem deeper_any (b : Nat) (t : Tok) (v : Lev) (w : World) (hb : w.heap[b]? = some (.cells t.cells 54)) :
    Calls Tryz.prog 126 #[.agg v.cells, .pointer (some ⟨b, 0, none⟩)] w fun e w' => e = .returned (.bool (decide (v.col > t.col))) ∧ Below w.heap.size w w' := by
  obtain ⟨tk, tn, tx, ta, tl, tc⟩ := t
  obtain ⟨vb, vc, vt⟩ := v
  have hlt := heap_lt hb
  simp only [Tok.cells, Lev.cells] at hb ⊢
  have c5 : (w.alloc (.cells #[.bool vb, .int .i64 vc, .string vt] 171)).cell? ⟨b, 5, none⟩ = some (.int .i64 tc) := cell_of (heap_alloc hb _) 5
  clear hb
  go_enter Tryz.func126, Tryz.ntmps126
  go_wp2
  go_ret
  exact ⟨rfl, (Below.refl _ w).alloc (Nat.le_refl _) _⟩
set_option maxRecDepth 100000 in
set_option maxHeartbeats 4000000 in
theorem isBlock_any (v : Lev) (w : World) : Calls Tryz.prog 130 #[.agg v.cells] w fun e w' => e = .returned (.bool v.block) ∧ Below w.heap.size w w' := by
  obtain ⟨vb, vc, vt⟩ := v
  simp only [Lev.cells]
  go_enter Tryz.func130, Tryz.ntmps130
  go_wp2
  go_ret
  exact ⟨rfl, (Below.refl _ w).alloc (Nat.le_refl _) _⟩
set_option maxRecDepth 100000 in
set_option maxHeartbeats 4000000 in
theorem anything_any (v : Lev) (w : World) : Calls Tryz.prog 95 #[.agg v.cells] w fun e w' => e = .returned (.bool true) ∧ Below w.heap.size w w' := by
  obtain ⟨vb, vc, vt⟩ := v
  simp only [Lev.cells]
  go_enter Tryz.func95, Tryz.ntmps95
  go_wp2
  go_ret
  exact ⟨rfl, (Below.refl _ w).alloc (Nat.le_refl _) _⟩
end Go.Proofs.YtfnhjdehlikbaaaGreatDoor.Lx
namespace Go.Proofs.YtfnhjdehlikbaaaGreatDoor.Lx
open Go.RowKit Go.Proofs.YtfnhjdehlikbaaaGreatDoorW.PrintWords
def shutL (p : Lev → Bool) (t : Tok) : Nat → List Lev → List Tok → List Lev × List Tok
  | 0, st, out => (st, out)
  | n + 1, st, out => if ((topF st).block && p (topF st)) = true then shutL p t n st.dropLast (out ++ [markF 7 t]) else (st, out)
def shutF (p : Lev → Bool) (t : Tok) (st : List Lev) (out : List Tok) : List Lev × List Tok := shutL p t (st.length + 1) st out
set_option maxRecDepth 100000 in
theorem field171 (b : Bool) (c : Int) (x : ByteArray) (W : World) : (Instr.field 171 (.agg #[.bool b, .int .i64 c, .string x]) 0).run Tryz.prog W = .ok (.bool b) W := by
  have hu := Tryz.underlying171
  unfold Instr.field
  go_simp
  simp [asAgg, Result.andThen]
set_option maxRecDepth 100000 in
theorem field171' (b : Bool) (c : Int) (x : ByteArray) (W : World) : (Instr.field 171 (.agg #[.bool b, .int .i64 c, .string x]) 2).run Tryz.prog W = .ok (.string x) W := by
  have hu := Tryz.underlying171
  unfold Instr.field
  go_simp
  simp [asAgg, Result.andThen]
attribute [local go_sem] field171 field171'
structure ShutAt (B y : Nat) (f : Value) (p : Lev → Bool) (t : Tok) (I : (Nat → Prop) → World → Prop) (own : Nat → Prop) (w : World) (r : List Lev × List Tok) (n : Nat) (st : List Lev) (out : List Tok) (own' : Nat → Prop) (W : World) : Prop where
  lay : LaySt B y f st out own' W
  inv : I own' W
  keep : Keep own w W
  sub : ∀ k, own' k → own k ∨ w.heap.size ≤ k
  goal : shutL p t n st out = r
  fuel : st.length < n
  len : out.length + st.length ≤ 1000000000
  box : W.heap[w.heap.size]? = some (.cells t.cells 54)
  far : ¬ own' w.heap.size
set_option maxRecDepth 100000 in
set_option maxHeartbeats 8000000 in
theorem shut_any (B y : Nat) (f : Value) (p : Lev → Bool) (t : Tok) (fn : Nat) (bs : Array Value) (he : ∀ args w, (callFunc fn args).run Tryz.prog w = .ok (.enter fn args) w)
    (I : (Nat → Prop) → World → Prop) (hI : ∀ own own' W W', I own W → Keep own W W' → (∀ k, own' k → own k ∨ W.heap.size ≤ k) → I own' W')
    (hF : ∀ own W v, I own W → Calls Tryz.prog fn (#[.agg v.cells] ++ bs) W fun e w' => e = .returned (.bool (p v)) ∧ Below W.heap.size W w')
    (st : List Lev) (out : List Tok) (own : Nat → Prop) (w : World) (h : LaySt B y f st out own w) (hi : I own w) (hlen : out.length + st.length ≤ 1000000000) (hB : B ≤ w.heap.size) :
    Calls Tryz.prog 94 #[.pointer (some ⟨y, 0, none⟩), .agg t.cells, .func (.func fn) #[] bs] w fun e w' => e = .returned (.tuple #[]) ∧ LayTo B y f (shutF p t st out).1 (shutF p t st out).2 own w w' := by
  have hown : ¬ own w.heap.size := by
    obtain ⟨vs, vo, rfl, h⟩ := h
    intro ho
    have := h.lt _ ho
    omega
  obtain ⟨r, hr⟩ : ∃ r, shutF p t st out = r := ⟨_, rfl⟩
  rw [hr]
  have hk0 : Keep own w (w.alloc (.cells t.cells 54)) := (Keep.refl _ _).alloc _
  have HSH : Aside0 (ShutAt B y f p t I own w r (st.length + 1) st out own (w.alloc (.cells t.cells 54))) :=
    ⟨⟨h.keep ((Keep.refl (fun _ => False) _).alloc _) (fun _ h => h.elim), hI _ _ _ _ hi hk0 (fun _ h => .inl h), hk0, fun _ h => .inl h, hr, by omega, hlen, heap_new w _, hown⟩⟩
  clear hk0 h hi hr hlen hown
  obtain ⟨tk, tn, tx, ta, tl, tc⟩ := t
  simp only [Tok.cells] at *
  go_enter Tryz.func94, Tryz.ntmps94
  go_wp2
  go_loopg [] (st.length + 1) (fun n wr => ∃ st' out' own', Aside0 (ShutAt B y f p ⟨tk, tn, tx, ta, tl, tc⟩ I own w r n st' out' own' wr))
  case atStart => exact ⟨st, out, own, HSH⟩
  case round =>
    obtain ⟨st', out', own', HA⟩ := hrel
    have HT1 := Aside0.mk (top_any B y f st' out' own' wr HA.out.lay)
    obtain ⟨⟨vb, vc, vt⟩, hv⟩ : ∃ v, topF st' = v := ⟨_, rfl⟩
    rw [hv] at HT1
    simp only [Lev.cells] at HT1
    have HV := Aside0.mk hv; clear hv
    cases vb with
    | false =>
      go_wp2_with (first | (go_at_call 127; (with_reducible refine HT1.out.mono ?_); rintro e w1 ⟨rfl, hb1⟩; have HB1 := Aside0.mk hb1; clear hb1))
      go_end0
      have hg := HA.out.goal
      have hfu := HA.out.fuel
      cases gk with
      | zero => omega
      | succ n =>
        rw [shutL, HV.out] at hg
        simp at hg
        subst hg
        exact ⟨rfl, own', HA.out.lay.keep (Keep.of_below (S := fun _ => False) HB1.out) (fun _ h => h.elim), HA.out.keep.trans (Keep.of_below HB1.out), HA.out.sub⟩
    | true =>
      have HTT : Aside0 (∀ W, Keep (fun _ => False) wr W → Calls Tryz.prog 127 #[.pointer (some ⟨y, 0, none⟩)] W fun e w' => e = .returned (.agg #[.bool true, .int .i64 vc, .string vt]) ∧ Below W.heap.size W w') := ⟨fun W hk => by
        have := top_any B y f st' out' own' W (HA.out.lay.keep hk (fun _ h => h.elim))
        rw [HV.out] at this
        exact this⟩
      have HFF : Aside0 (∀ W, Keep (fun _ => False) wr W → Calls Tryz.prog fn (#[.agg #[.bool true, .int .i64 vc, .string vt]] ++ bs) W fun e w' => e = .returned (.bool (p ⟨true, vc, vt⟩)) ∧ Below W.heap.size W w') := ⟨fun W hk => hF own' W ⟨true, vc, vt⟩ (hI own' own' wr W HA.out.inv (hk.mono (fun _ h => h.elim)) (fun _ h => .inl h))⟩
      clear HT1
      cases hp : p ⟨true, vc, vt⟩ with
      | false =>
        rw [hp] at HFF
        have HP := Aside0.mk hp; clear hp
        go_wp2_with (first | (go_at_call 127; (with_reducible refine (HTT.out wr (Keep.refl _ _)).mono ?_); rintro e w1 ⟨rfl, hb1⟩; have HK1 := Aside0.mk (Keep.of_below (S := fun _ => False) hb1); clear hb1) | (go_at_call 127; (with_reducible refine (HTT.out w1 HK1.out).mono ?_); rintro e w2 ⟨rfl, hb2⟩; have HK2 := Aside0.mk (HK1.out.trans (Keep.of_below hb2)); clear hb2) | ((with_reducible refine (HFF.out w2 HK2.out).mono ?_); rintro e w3 ⟨rfl, hb3⟩; have HK3 := Aside0.mk (HK2.out.trans (Keep.of_below hb3)); clear hb3))
        go_end0
        have hg := HA.out.goal
        have hfu := HA.out.fuel
        cases gk with
        | zero => omega
        | succ n =>
          rw [shutL, HV.out, HP.out] at hg
          simp at hg
          subst hg
          exact ⟨rfl, own', HA.out.lay.keep HK3.out (fun _ h => h.elim), HA.out.keep.trans (HK3.out.mono (fun _ h => h.elim)), HA.out.sub⟩
      | true =>
        rw [hp] at HFF
        have HP := Aside0.mk hp; clear hp
        obtain ⟨s0, rfl⟩ : ∃ s0, st' = s0 ++ [⟨true, vc, vt⟩] := by
          have hv := HV.out
          rcases List.eq_nil_or_concat st' with rfl | ⟨s0, x, rfl⟩
          · simp [topF, lev0] at hv
          · rw [List.concat_eq_append] at hv ⊢
            simp [topF] at hv
            exact ⟨s0, by rw [hv]⟩
        have hln := HA.out.len
        simp only [List.length_append, List.length_cons, List.length_nil] at hln
        have hwr := HA.out.keep.size
        have hbx := heap_lt HA.out.box
        have HM : Aside0 (∀ W, Calls Tryz.prog 124 #[.int .i64 7, .agg #[.int .i64 tk, .int .i64 tn, .string tx, .int .i64 ta, .int .i64 tl, .int .i64 tc]] W fun e w' => e = .returned (.agg #[.int .i64 7, .int .i64 0, .string ⟨#[]⟩, .int .i64 ta, .int .i64 tl, .int .i64 tc]) ∧ Below W.heap.size W w') := ⟨fun W => mark_any 7 ⟨tk, tn, tx, ta, tl, tc⟩ W⟩
        go_wp2_with (first | (go_at_call 127; (with_reducible refine (HTT.out wr (Keep.refl _ _)).mono ?_); rintro e w1 ⟨rfl, hb1⟩; have HK1 := Aside0.mk (Keep.of_below (S := fun _ => False) hb1); clear hb1) | (go_at_call 127; (with_reducible refine (HTT.out w1 HK1.out).mono ?_); rintro e w2 ⟨rfl, hb2⟩; have HK2 := Aside0.mk (HK1.out.trans (Keep.of_below hb2)); clear hb2) | ((with_reducible refine (HFF.out w2 HK2.out).mono ?_); rintro e w3 ⟨rfl, hb3⟩; have HK3 := Aside0.mk (HK2.out.trans (Keep.of_below hb3)); clear hb3; have hbox := (HK3.out.block w.heap.size hbx (fun h => h)).trans HA.out.box; have z0 : w3.cell? ⟨w.heap.size, 0, none⟩ = some (.int .i64 tk) := cell_of hbox 0; have z1 : w3.cell? ⟨w.heap.size, 1, none⟩ = some (.int .i64 tn) := cell_of hbox 1; have z2 : w3.cell? ⟨w.heap.size, 2, none⟩ = some (.string tx) := cell_of hbox 2; have z3 : w3.cell? ⟨w.heap.size, 3, none⟩ = some (.int .i64 ta) := cell_of hbox 3; have z4 : w3.cell? ⟨w.heap.size, 4, none⟩ = some (.int .i64 tl) := cell_of hbox 4; have z5 : w3.cell? ⟨w.heap.size, 5, none⟩ = some (.int .i64 tc) := cell_of hbox 5; clear hbox) | (go_at_call 124; (with_reducible refine (HM.out _).mono ?_); rintro e w4 ⟨rfl, hb4⟩; have HK4 := Aside0.mk ((HK3.out.trans (Keep.of_below hb4)).alloc (.cells #[.int .i64 7, .int .i64 0, .string ⟨#[]⟩, .int .i64 ta, .int .i64 tl, .int .i64 tc] 54)); clear hb4) | (go_at_call 123; refine (put_any B y f _ out' own' _ (HA.out.lay.keep HK4.out (fun _ h => h.elim)) ⟨7, 0, ⟨#[]⟩, ta, tl, tc⟩ ⟨w4.heap.size, 0, none⟩ 1 (cells_new w4 #[.int .i64 7, .int .i64 0, .string ⟨#[]⟩, .int .i64 ta, .int .i64 tl, .int .i64 tc] 54) (by omega) (Nat.le_trans hB (Nat.le_trans hwr HK4.out.size))).mono ?_; rintro e w5 ⟨rfl, own5, h5, hk5, hs5⟩; have H5 := Aside0.mk h5; have HK5 := Aside0.mk hk5; have HS5 := Aside0.mk hs5; clear h5 hk5 hs5) | (go_at_call 128; refine (pop_any B y f s0 ⟨true, vc, vt⟩ _ own5 w5 H5.out (by omega) (Nat.le_trans hB (Nat.le_trans hwr (Nat.le_trans HK4.out.size HK5.out.size)))).mono ?_; rintro e w6 ⟨rfl, own6, h6, hk6, hs6⟩; have H6 := Aside0.mk h6; have HK6 := Aside0.mk hk6; have HS6 := Aside0.mk hs6; clear h6 hk6 hs6))
        have hg := HA.out.goal
        have hfu := HA.out.fuel
        cases gk with
        | zero => omega
        | succ n =>
          rw [shutL, HV.out, HP.out] at hg
          simp at hg hfu
          have HG := Aside0.mk hg; clear hg
          have HFU := Aside0.mk hfu; clear hfu
          go_roundg n
          case measure => omega
          case rel =>
            have K5 := (HK4.out.mono (S' := own') (fun _ h => h.elim)).trans HK5.out
            have S5 : ∀ k, own5 k → own' k ∨ wr.heap.size ≤ k := fun k hk => (HS5.out k hk).imp_right (Nat.le_trans HK4.out.size)
            have K6 : Keep own' wr w6 := K5.then HK6.out (fun k hk ho => (S5 k ho).resolve_right (by omega))
            have S6 : ∀ k, own6 k → own' k ∨ wr.heap.size ≤ k := fun k hk => by
              rcases HS6.out k hk with h1 | h1
              · exact S5 k h1
              · exact .inr (Nat.le_trans K5.size h1)
            refine ⟨s0, out' ++ [⟨7, 0, ⟨#[]⟩, ta, tl, tc⟩], own6, ⟨⟨H6.out, hI own5 own6 w5 w6 (hI own' own5 wr w5 HA.out.inv K5 S5) HK6.out HS6.out, HA.out.keep.then K6 (fun k hk ho => (HA.out.sub k ho).resolve_right (by omega)), fun k hk => ?_, HG.out, HFU.out, by simp; omega, (K6.block _ hbx HA.out.far).trans HA.out.box, fun ho => ?_⟩⟩⟩
            · rcases S6 k hk with h1 | h1
              · exact HA.out.sub k h1
              · exact .inr (by omega)
            · rcases S6 _ ho with h1 | h1
              · exact HA.out.far h1
              · omega
end Go.Proofs.YtfnhjdehlikbaaaGreatDoor.Lx
namespace Go.Proofs.YtfnhjdehlikbaaaGreatDoor.Lx
open Go.RowKit Go.Proofs.YtfnhjdehlikbaaaGreatDoorW.PrintWords
set_option maxRecDepth 100000 in
set_option maxHeartbeats 4000000 in
theorem put2_any (B y : Nat) (f : Value) (st : List Lev) (out : List Tok) (own : Nat → Prop) (w : World) (h : LaySt B y f st out own w)
    (t u : Tok) (ad : Addr) (c : Nat) (hnews : ∀ j x, (t.cells.toList ++ u.cells.toList)[j]? = some x → w.cell? (ad.add j) = some x) (hlen : out.length ≤ 1000000000) (hB : B ≤ w.heap.size) :
    Calls Tryz.prog 123 #[.pointer (some ⟨y, 0, none⟩), .slice (some ad) 2 c] w fun e w' => e = .returned (.tuple #[]) ∧ LayTo B y f st (out ++ [t] ++ [u]) own w w' := by
  obtain ⟨i0, hi, hz0, hz1, hz2⟩ := info_parts info54
  have HI := Aside0.mk hi; clear hi
  have HZ0 := Aside0.mk hz0; clear hz0
  have HZ1 := Aside0.mk hz1; clear hz1
  have HZ2 := Aside0.mk hz2; clear hz2
  obtain ⟨vs, vo, rfl, h⟩ := h
  have hbase := h.base
  have hy := heap_lt h.cell
  obtain ⟨A, n, rfl⟩ : ∃ A n, vo = .slice A out.length n := by
    rcases h.out.2 with ⟨h1, h2⟩ | ⟨g, cap, cur, h1, _⟩
    · exact ⟨none, 0, by rw [h2]; exact h1⟩
    · exact ⟨_, _, h1⟩
  have c0 : w.cell? ⟨y, 1, none⟩ = some (.slice A out.length n) := cell_of h.cell 1
  have f0 := free_of h.cell 1
  have H := Aside0.mk h; clear h
  have HN := Aside0.mk hnews; clear hnews
  go_enter Tryz.func123, Tryz.ntmps123
  go_wp2_with (at_builtin; refine wpList_append_own_at _ rfl _ _ 34 rfl B 54 i0 _ 6 56 Tryz.underlying34 HI.out HZ0.out HZ1.out HZ2.out rfl (by decide) (.slice A out.length n) out.length (flat out) rfl H.out.out ad 2 c (t.cells.toList ++ u.cells.toList) rfl rfl HN.out (by simp [Tok.cells, Value.oneCell']) (by unfold maxLen; omega) (by omega) hB ?_; intro v' w3 hown' hgrow _ hat; obtain ⟨g', cap', rfl⟩ := ownsRow_succ hown'; have hb5 := (hgrow.block y hy (fun h => by have := own_base H.out.out _ h.symm; omega)).trans H.out.cell; have d5 := cell_of hb5 1; simp only [List.getElem?_toArray, List.getElem?_cons_succ, List.getElem?_cons_zero] at d5; have e5 := free_of hb5 1; have HB5 := Aside0.mk hb5; clear hb5; have hO := Aside0.mk hown'; have hG := Aside0.mk hgrow; have hA := Aside0.mk hat; clear hown' hgrow hat)
  go_end0
  refine ⟨rfl, H.out.put hG.out ?_ hA.out⟩
  rw [flat_snoc, flat_snoc, List.length_append, List.length_append, List.append_assoc]
  exact hO.out
end Go.Proofs.YtfnhjdehlikbaaaGreatDoor.Lx
namespace Go.Proofs
open Go.Shelf
theorem YtfnhjdehlikbaaaGreatDoor.Lx.itoa_any (n : Int) (h0 : -9223372036854775808 ≤ n) (h1 : n ≤ 9223372036854775807) (w : World) (htab : Lib.TabIs Tryz.prog w "internal/strconv.uint64pow10" .u64 Lib.pow10Tab) :
    Calls Tryz.prog 152 #[.int .i64 n] w fun e w' => e = .returned (.string ⟨(Lib.itoa n).toArray⟩) ∧ ∃ k os, w' = Sort.grow (w.drewN k) os := Any.strconv_Itoa Tryz.laysItoa n h0 h1 w htab
end Go.Proofs
namespace Go.Proofs.YtfnhjdehlikbaaaGreatDoor.Lx
open Go.RowKit Go.Proofs.YtfnhjdehlikbaaaGreatDoorW.PrintWords
theorem size184 (v0 v1 v2 : Value) : (Tryz.prog.info? 184).map (·.size) = some (#[v0, v1, v2] : Array Value).size := by
  have h : (Tryz.prog.info? 184).map (·.size) = some 3 := by kernel_rfl
  rw [h]; rfl
set_option maxRecDepth 100000 in
set_option maxHeartbeats 4000000 in
theorem bare_any (t : Tok) (w : World) : Calls Tryz.prog 144 #[.agg t.cells] w fun e w' => e = .returned (.agg #[.int .i64 t.kind, .int .i64 t.num, .string t.text]) ∧ Below w.heap.size w w' := by
  obtain ⟨tk, tn, tx, ta, tl, tc⟩ := t
  simp only [Tok.cells]
  go_enter Tryz.func144, Tryz.ntmps144
  go_wp2
  refine bodyPost_ret (results_cell_row rfl _ _ (w.heap.size + 1) 184 _ (0, 0) _ rfl (heap_new' _ _ _ (by simp)) Tryz.underlying184 rfl (size184 _ _ _)) rfl ⟨rfl, ?_⟩
  exact ((Below.refl _ w).alloc (Nat.le_refl _) _).alloc (by simp) _
end Go.Proofs.YtfnhjdehlikbaaaGreatDoor.Lx
namespace Go.Proofs.YtfnhjdehlikbaaaGreatDoor.Lx
open Go.RowKit Go.Proofs.YtfnhjdehlikbaaaGreatDoorW.PrintWords
structure FormAt (w : World) (tk tn : Int) (tx : ByteArray) (ta tl tc wn : Int) (W : World) : Prop where
  box : W.heap[w.heap.size]? = some (.cells #[.int .i64 tk, .int .i64 tn, .string tx, .int .i64 ta, .int .i64 tl, .int .i64 tc] 54)
  want : W.heap[w.heap.size + 1]? = some (.cells #[.int .i64 tk, .int .i64 wn, .string tx] 184)
  below : Below w.heap.size w W
theorem FormAt.step {w : World} {tk tn : Int} {tx : ByteArray} {ta tl tc wn : Int} {W W2 : World} (h : FormAt w tk tn tx ta tl tc wn W) (hb : Below W.heap.size W W2) : FormAt w tk tn tx ta tl tc wn W2 :=
  ⟨(hb.block _ (heap_lt h.box)).trans h.box, (hb.block _ (heap_lt h.want)).trans h.want, h.below.trans (hb.mono h.below.size)⟩
theorem FormAt.drew {w : World} {tk tn : Int} {tx : ByteArray} {ta tl tc wn : Int} {W : World} (h : FormAt w tk tn tx ta tl tc wn W) : FormAt w tk tn tx ta tl tc wn W.drew := h.step (Below.refl _ _).drew
theorem FormAt.cells {w : World} {tk tn : Int} {tx : ByteArray} {ta tl tc wn : Int} {W : World} (h : FormAt w tk tn tx ta tl tc wn W) :
    W.cell? ⟨w.heap.size, 0, none⟩ = some (.int .i64 tk) ∧ W.cell? ⟨w.heap.size, 1, none⟩ = some (.int .i64 tn) ∧ W.cell? ⟨w.heap.size, 2, none⟩ = some (.string tx) ∧ W.cell? ⟨w.heap.size, 3, none⟩ = some (.int .i64 ta) ∧ W.cell? ⟨w.heap.size, 4, none⟩ = some (.int .i64 tl) ∧ W.cell? ⟨w.heap.size, 5, none⟩ = some (.int .i64 tc) ∧ W.cell? ⟨w.heap.size + 1, 0, none⟩ = some (.int .i64 tk) ∧ W.cell? ⟨w.heap.size + 1, 1, none⟩ = some (.int .i64 wn) ∧ W.cell? ⟨w.heap.size + 1, 2, none⟩ = some (.string tx) :=
  ⟨cell_of h.box 0, cell_of h.box 1, cell_of h.box 2, cell_of h.box 3, cell_of h.box 4, cell_of h.box 5, cell_of h.want 0, cell_of h.want 1, cell_of h.want 2⟩
set_option maxRecDepth 100000 in
set_option maxHeartbeats 4000000 in
theorem formed_key0 (tx : ByteArray) (ta tl tc : Int) (w : World) :
    Calls Tryz.prog 141 #[.agg #[.int .i64 4, .int .i64 0, .string tx, .int .i64 ta, .int .i64 tl, .int .i64 tc]] w fun e w' => e = .returned (.bool (isKw tx)) ∧ Below w.heap.size w w' := by
  have HB : Aside0 (∀ W, Calls Tryz.prog 144 #[.agg #[.int .i64 4, .int .i64 0, .string tx, .int .i64 ta, .int .i64 tl, .int .i64 tc]] W fun e w' => e = .returned (.agg #[.int .i64 4, .int .i64 0, .string tx]) ∧ Below W.heap.size W w') := ⟨fun W => bare_any ⟨4, 0, tx, ta, tl, tc⟩ W⟩
  have HKW : Aside0 (∀ W, Calls Tryz.prog 44 #[.string tx] W fun e w' => e = .returned (.bool (isKw tx)) ∧ Below W.heap.size W w') := ⟨fun W => keyword_any tx W⟩
  have hF : Aside0 (FormAt w 4 0 tx ta tl tc 0 ((w.alloc (.cells #[.int .i64 4, .int .i64 0, .string tx, .int .i64 ta, .int .i64 tl, .int .i64 tc] 54)).alloc (.cells #[.int .i64 4, .int .i64 0, .string tx] 184))) :=
    ⟨⟨heap_alloc (heap_new w _) _, heap_new' _ _ _ (by simp), ((Below.refl _ w).alloc (Nat.le_refl _) _).alloc (by simp) _⟩⟩
  · go_enter Tryz.func141, Tryz.ntmps141
    go_wp2
    generalize ((w.alloc (.cells #[.int .i64 4, .int .i64 0, .string tx, .int .i64 ta, .int .i64 tl, .int .i64 tc] 54)).alloc (.cells #[.int .i64 4, .int .i64 0, .string tx] 184)) = W1 at hF ⊢
    obtain ⟨g0, g1, g2, g3, g4, g5, h0, h1, h2⟩ := hF.out.cells
    have HF1 := Aside0.mk hF.out.drew
    go_region_held3 (fun W => W.cell? ⟨w.heap.size, 0, none⟩ = some (.int .i64 4) ∧ W.cell? ⟨w.heap.size, 1, none⟩ = some (.int .i64 0) ∧ W.cell? ⟨w.heap.size, 2, none⟩ = some (.string tx) ∧ W.cell? ⟨w.heap.size, 3, none⟩ = some (.int .i64 ta) ∧ W.cell? ⟨w.heap.size, 4, none⟩ = some (.int .i64 tl) ∧ W.cell? ⟨w.heap.size, 5, none⟩ = some (.int .i64 tc) ∧ W.cell? ⟨w.heap.size + 1, 0, none⟩ = some (.int .i64 4) ∧ W.cell? ⟨w.heap.size + 1, 1, none⟩ = some (.int .i64 0) ∧ W.cell? ⟨w.heap.size + 1, 2, none⟩ = some (.string tx) ∧ Aside0 (FormAt w 4 0 tx ta tl tc 0 W)) (go_keep) (first | (go_at_call 144; (with_reducible refine (HB.out _).mono ?_); rintro e w2 ⟨rfl, hb⟩; have hA : Aside0 (FormAt w 4 0 tx ta tl tc 0 w2) := ⟨FormAt.step (Aside0.out (by assumption)) hb⟩; obtain ⟨k0, k1, k2, k3, k4, k5, k6, k7, k8⟩ := hA.out.cells) | (go_at_call 44; (with_reducible refine (HKW.out _).mono ?_); rintro e w3 ⟨rfl, hb⟩; have hA3 : Aside0 (FormAt w 4 0 tx ta tl tc 0 w3) := ⟨FormAt.step (Aside0.out (by assumption)) hb⟩; obtain ⟨l0, l1, l2, l3, l4, l5, l6, l7, l8⟩ := hA3.out.cells))
    go_wp2
    go_ret
    exact ⟨rfl, (Aside0.out (by assumption) : FormAt w 4 0 tx ta tl tc 0 _).below⟩
end Go.Proofs.YtfnhjdehlikbaaaGreatDoor.Lx
namespace Go.Proofs.YtfnhjdehlikbaaaGreatDoor.Lx
open Go.RowKit Go.Proofs.YtfnhjdehlikbaaaGreatDoorW.PrintWords
def among (l : List ByteArray) (s : ByteArray) : Bool := l.any (fun x => s.toList == x.toList)
set_option maxRecDepth 100000 in
set_option maxHeartbeats 4000000 in
theorem index_any (l : List ByteArray) (s : ByteArray) (g c : Nat) (w : World) (hl : l.length ≤ 1000000) (hc : ∀ k x, l[k]? = some x → w.cell? ⟨g, k, none⟩ = some (.string x)) :
    Calls Tryz.prog 64 #[.slice (some ⟨g, 0, none⟩) l.length c, .string s] w fun e w' => ∃ i : Int, e = .returned (.int .i64 i) ∧ decide (i ≥ 0) = among l s ∧ w' = w := by
  have HC := Aside0.mk hc; clear hc
  go_enter Tryz.func64, Tryz.ntmps64
  go_wp2
  go_loop [8] (fun n => ∃ k : Nat, k ≤ l.length ∧ n = .int .i64 (k : Int) ∧ Aside0 ((l.take k).any (fun x => s.toList == x.toList) = false)) (fun n => l.length - (intOf n).toNat)
  case atStart => exact ⟨0, by omega, rfl, ⟨rfl⟩⟩
  case round =>
    obtain ⟨k, hk, rfl, hf⟩ := hrel
    by_cases hlt : k < l.length
    · have c0 := HC.out k l[k] (List.getElem?_eq_getElem hlt)
      cases hb : (s.toList == (l[k]).toList) with
      | true =>
        have HG := Aside0.mk hb; clear hb
        have hb2 := HG.out
        go_wp2
        go_ret
        refine ⟨_, rfl, ?_, rfl⟩
        have : among l s = true := by
          unfold among
          rw [List.any_eq_true]
          exact ⟨l[k], List.getElem_mem hlt, HG.out⟩
        rw [this]
        simp
      | false =>
        have HG := Aside0.mk hb
        go_wp2
        go_round
        case rel => exact ⟨k + 1, by omega, by go_num, ⟨by rw [List.take_add_one, List.getElem?_eq_getElem hlt, List.any_append, hf.out, Bool.false_or, Option.toList_some, List.any_cons, HG.out]; rfl⟩⟩
        case measure => simp [intOf]; omega
    · obtain rfl : k = l.length := by omega
      go_wp2
      go_ret
      refine ⟨_, rfl, ?_, rfl⟩
      have := hf.out
      rw [List.take_length] at this
      unfold among
      rw [this]
      simp
set_option maxRecDepth 100000 in
set_option maxHeartbeats 4000000 in
theorem contains_any (l : List ByteArray) (s : ByteArray) (g c : Nat) (w : World) (hl : l.length ≤ 1000000) (hc : ∀ k x, l[k]? = some x → w.cell? ⟨g, k, none⟩ = some (.string x)) :
    Calls Tryz.prog 32 #[.slice (some ⟨g, 0, none⟩) l.length c, .string s] w fun e w' => e = .returned (.bool (among l s)) ∧ w' = w := by
  have HX := Aside0.mk (index_any l s g c w hl hc); clear hc
  go_enter Tryz.func32, Tryz.ntmps32
  go_wp2_with (go_at_call 64; (with_reducible refine HX.out.mono ?_); rintro e w1 ⟨i, rfl, hi, rfl⟩)
  go_ret
  exact ⟨by rw [← hi]; rfl, rfl⟩
end Go.Proofs.YtfnhjdehlikbaaaGreatDoor.Lx
namespace Go.Proofs.YtfnhjdehlikbaaaGreatDoor.Lx
open Go.RowKit Go.Proofs.YtfnhjdehlikbaaaGreatDoorW.PrintWords
def closers : List ByteArray := [⟨#[41]⟩, ⟨#[125]⟩, ⟨#[105, 110]⟩, ⟨#[119, 105, 116, 104]⟩]
def openers : List ByteArray := [⟨#[40]⟩, ⟨#[123]⟩, ⟨#[108, 101, 116]⟩, ⟨#[109, 97, 116, 99, 104]⟩, ⟨#[104, 97, 110, 100, 108, 101]⟩, ⟨#[97, 98, 105, 108, 105, 116, 121]⟩]
def sq (a : ByteArray) (l : List UInt8) : Bool := a.toList == l
def closesF (x o : ByteArray) : Bool :=
  if sq x [41] = true then sq o [40]
  else if sq x [125] = true then sq o [123]
  else if sq x [105, 110] = true then sq o [108, 101, 116]
  else if sq x [119, 105, 116, 104] = true then (sq o [109, 97, 116, 99, 104] || (sq o [104, 97, 110, 100, 108, 101] || sq o [97, 98, 105, 108, 105, 116, 121]))
  else false
def Tok.sign (t : Tok) : Bool := t.kind == 3 || t.kind == 4
def deeper (t : Tok) (v : Lev) : Bool := decide (v.col > t.col)
def anyL (_ : Lev) : Bool := true
def lastF (st : List Lev) : Lev := (st.reverse.find? (·.block)).getD lev0
def oneA (t : Tok) (begins : Bool) (st : List Lev) (out : List Tok) : List Lev × List Tok :=
  if begins = true then
    ((shutF (deeper t) t st out).1, if ((topF (shutF (deeper t) t st out).1).block && (topF (shutF (deeper t) t st out).1).col == t.col) = true then (shutF (deeper t) t st out).2 ++ [markF 6 t] else (shutF (deeper t) t st out).2)
  else (st, out)
def badA (t : Tok) (begins : Bool) (st : List Lev) (out : List Tok) : Bool := begins && (shutF (deeper t) t st out).1.isEmpty
def closing (t : Tok) : Bool := t.sign && among closers t.text
def oneB (t : Tok) (st : List Lev) (out : List Tok) : List Lev × List Tok :=
  if closing t = true then ((shutF anyL t st out).1.dropLast, (shutF anyL t st out).2) else (st, out)
def badB (t : Tok) (st : List Lev) (out : List Tok) : Bool := closing t && ((shutF anyL t st out).1.isEmpty || !closesF t.text (topF (shutF anyL t st out).1).text)
def opening (t : Tok) : Bool := t.sign && among openers t.text
def withs (t : Tok) : Bool := t.sign && sq t.text [119, 105, 116, 104]
def opens (nx : Tok) (more : Bool) (st : List Lev) : Bool := more && decide (nx.col > (lastF st).col)
def oneC (t nx : Tok) (more : Bool) (st : List Lev) (out : List Tok) : (List Lev × List Tok) × Bool :=
  if opening t = true then ((st ++ [⟨false, 0, t.text⟩], out ++ [t]), false)
  else if withs t = true then
    if opens nx more st = true then ((st ++ [⟨true, nx.col, ⟨#[]⟩⟩], out ++ [t] ++ [markF 5 nx]), true)
    else ((st, out ++ [t] ++ [markF 5 nx] ++ [markF 7 nx]), false)
  else ((st, out ++ [t]), false)
def oneF (t nx : Tok) (begins more : Bool) (st : List Lev) (out : List Tok) : (List Lev × List Tok) × Bool × Int :=
  if badA t begins st out = true then ((st, out), false, 15)
  else
    let a := oneA t begins st out
    if badB t a.1 a.2 = true then (a, false, 7)
    else
      let b := oneB t a.1 a.2
      let c := oneC t nx more b.1 b.2
      if 60 < (c.1.1.length : Int) then (c.1, false, 11) else (c.1, c.2, 0)
def endT (l : List Tok) : Tok := match l.getLast? with | none => ⟨0, 0, ⟨#[]⟩, 0, 0, 0⟩ | some t => { t with at_ := t.at_ + t.text.size, col := t.col + t.text.size }
def layG (l : List Tok) : Nat → Nat → Bool → List Lev → List Tok → (List Lev × List Tok) × Int × Int
  | 0, _, _, st, out => ((st, out), 0, 0)
  | f + 1, i, opened, st, out =>
    if i < l.length then
      let r := oneF (l[i]?.getD tokZ) (if i + 1 < l.length then l[i + 1]?.getD tokZ else endT l) (!opened && (i == 0 || decide ((l[i]?.getD tokZ).line > (l[i - 1]?.getD tokZ).line))) (decide (i + 1 < l.length)) st out
      if r.2.2 = 0 then layG l f (i + 1) r.2.1 r.1.1 r.1.2 else (r.1, (i : Int), r.2.2)
    else ((st, out), 0, 0)
def layF (l : List Tok) : List Tok × Int × Int :=
  let r := layG l (l.length + 1) 0 true [⟨true, (l[0]?.getD (endT l)).col, ⟨#[]⟩⟩] [markF 5 (l[0]?.getD (endT l))]
  if r.2.2 = 0 then
    let q := shutF anyL (endT l) r.1.1 r.1.2
    if q.1.isEmpty = true then (q.2, 0, 0) else ([], (l.length : Int), 7)
  else ([], r.2.1, r.2.2)
theorem shutL_len (p : Lev → Bool) (t : Tok) : ∀ (n : Nat) (st : List Lev) (out : List Tok), (shutL p t n st out).2.length + (shutL p t n st out).1.length ≤ out.length + st.length := by
  intro n
  induction n with
  | zero => intro st out; simp [shutL]
  | succ n ih =>
    intro st out
    rw [shutL]
    split
    · rename_i h
      rcases List.eq_nil_or_concat st with rfl | ⟨st, x, rfl⟩
      · simp [topF, lev0] at h
      · rw [List.concat_eq_append]
        refine Nat.le_trans (ih _ _) ?_
        simp
        omega
    · simp
theorem shutF_len (p : Lev → Bool) (t : Tok) (st : List Lev) (out : List Tok) : (shutF p t st out).2.length + (shutF p t st out).1.length ≤ out.length + st.length := shutL_len p t _ st out
theorem oneA_len (t : Tok) (begins : Bool) (st : List Lev) (out : List Tok) : (oneA t begins st out).2.length + (oneA t begins st out).1.length ≤ out.length + st.length + 1 := by
  have := shutF_len (deeper t) t st out
  unfold oneA
  split
  · simp only
    split
    · simp; omega
    · omega
  · simp only; omega
theorem oneB_len (t : Tok) (st : List Lev) (out : List Tok) : (oneB t st out).2.length + (oneB t st out).1.length ≤ out.length + st.length := by
  have := shutF_len anyL t st out
  unfold oneB
  split
  · simp; omega
  · simp
theorem oneC_len (t nx : Tok) (more : Bool) (st : List Lev) (out : List Tok) : (oneC t nx more st out).1.2.length + (oneC t nx more st out).1.1.length ≤ out.length + st.length + 3 := by
  unfold oneC
  split
  · simp; omega
  · split
    · split
      · simp; omega
      · simp; omega
    · simp; omega
theorem oneF_len (t nx : Tok) (begins more : Bool) (st : List Lev) (out : List Tok) : (oneF t nx begins more st out).1.2.length + (oneF t nx begins more st out).1.1.length ≤ out.length + st.length + 4 := by
  have h1 := oneA_len t begins st out
  have h2 := oneB_len t (oneA t begins st out).1 (oneA t begins st out).2
  have h3 := oneC_len t nx more (oneB t (oneA t begins st out).1 (oneA t begins st out).2).1 (oneB t (oneA t begins st out).1 (oneA t begins st out).2).2
  unfold oneF
  simp only
  split
  · simp only; omega
  · split
    · simp only; omega
    · split
      · simp only; omega
      · simp only; omega
end Go.Proofs.YtfnhjdehlikbaaaGreatDoor.Lx
namespace Go.Proofs.YtfnhjdehlikbaaaGreatDoor.Lx
open Go.RowKit Go.Proofs.YtfnhjdehlikbaaaGreatDoorW.PrintWords
theorem allDigits_of_run {s : ByteArray} (h : run isDigit s 0 = s.size) : allDigits s := by
  intro i hi
  have := (run_step isDigit s 0 i (by omega) (by omega)).2 (by omega)
  simpa using this
set_option maxRecDepth 100000 in
set_option maxHeartbeats 4000000 in
theorem formed_word (tx : ByteArray) (ta tl tc : Int) (w : World) (hs : tx.size ≤ 140737488351232) (hp : pathF tx = true) (hk : isKw tx = false) :
    Calls Tryz.prog 141 #[.agg #[.int .i64 1, .int .i64 0, .string tx, .int .i64 ta, .int .i64 tl, .int .i64 tc]] w fun e w' => e = .returned (.bool true) ∧ Below w.heap.size w w' := by
  have HB : Aside0 (∀ W, Calls Tryz.prog 144 #[.agg #[.int .i64 1, .int .i64 0, .string tx, .int .i64 ta, .int .i64 tl, .int .i64 tc]] W fun e w' => e = .returned (.agg #[.int .i64 1, .int .i64 0, .string tx]) ∧ Below W.heap.size W w') := ⟨fun W => bare_any ⟨1, 0, tx, ta, tl, tc⟩ W⟩
  have HPA : Aside0 (∀ W, Calls Tryz.prog 46 #[.string tx] W fun e w' => e = .returned (.bool true) ∧ W = w') := ⟨fun W => hp ▸ path_any tx W hs⟩
  have HKW : Aside0 (∀ W, Calls Tryz.prog 44 #[.string tx] W fun e w' => e = .returned (.bool false) ∧ Below W.heap.size W w') := ⟨fun W => hk ▸ keyword_any tx W⟩
  have hF : Aside0 (FormAt w 1 0 tx ta tl tc 0 ((w.alloc (.cells #[.int .i64 1, .int .i64 0, .string tx, .int .i64 ta, .int .i64 tl, .int .i64 tc] 54)).alloc (.cells #[.int .i64 1, .int .i64 0, .string tx] 184))) :=
    ⟨⟨heap_alloc (heap_new w _) _, heap_new' _ _ _ (by simp), ((Below.refl _ w).alloc (Nat.le_refl _) _).alloc (by simp) _⟩⟩
  clear hp hk
  · go_enter Tryz.func141, Tryz.ntmps141
    go_wp2
    generalize ((w.alloc (.cells #[.int .i64 1, .int .i64 0, .string tx, .int .i64 ta, .int .i64 tl, .int .i64 tc] 54)).alloc (.cells #[.int .i64 1, .int .i64 0, .string tx] 184)) = W1 at hF ⊢
    obtain ⟨g0, g1, g2, g3, g4, g5, h0, h1, h2⟩ := hF.out.cells
    have HF1 := Aside0.mk hF.out.drew
    go_region_held3 (fun W => W.cell? ⟨w.heap.size, 0, none⟩ = some (.int .i64 1) ∧ W.cell? ⟨w.heap.size, 1, none⟩ = some (.int .i64 0) ∧ W.cell? ⟨w.heap.size, 2, none⟩ = some (.string tx) ∧ W.cell? ⟨w.heap.size, 3, none⟩ = some (.int .i64 ta) ∧ W.cell? ⟨w.heap.size, 4, none⟩ = some (.int .i64 tl) ∧ W.cell? ⟨w.heap.size, 5, none⟩ = some (.int .i64 tc) ∧ W.cell? ⟨w.heap.size + 1, 0, none⟩ = some (.int .i64 1) ∧ W.cell? ⟨w.heap.size + 1, 1, none⟩ = some (.int .i64 0) ∧ W.cell? ⟨w.heap.size + 1, 2, none⟩ = some (.string tx) ∧ Aside0 (FormAt w 1 0 tx ta tl tc 0 W)) (go_keep) (first | (go_at_call 144; (with_reducible refine (HB.out _).mono ?_); rintro e w2 ⟨rfl, hb⟩; have hA : Aside0 (FormAt w 1 0 tx ta tl tc 0 w2) := ⟨FormAt.step (Aside0.out (by assumption)) hb⟩; obtain ⟨k0, k1, k2, k3, k4, k5, k6, k7, k8⟩ := hA.out.cells) | (go_at_call 46; (with_reducible refine (HPA.out _).mono ?_); rintro e w4 ⟨rfl, rfl⟩) | (go_at_call 44; (with_reducible refine (HKW.out _).mono ?_); rintro e w3 ⟨rfl, hb⟩; have hA3 : Aside0 (FormAt w 1 0 tx ta tl tc 0 w3) := ⟨FormAt.step (Aside0.out (by assumption)) hb⟩; obtain ⟨l0, l1, l2, l3, l4, l5, l6, l7, l8⟩ := hA3.out.cells))
    go_wp2
    go_ret
    exact ⟨rfl, (Aside0.out (by assumption) : FormAt w 1 0 tx ta tl tc 0 _).below⟩
set_option maxRecDepth 100000 in
set_option maxHeartbeats 4000000 in
theorem formed_sign (tx : ByteArray) (ta tl tc : Int) (w : World) (hp : among sgs tx = true) :
    Calls Tryz.prog 141 #[.agg #[.int .i64 3, .int .i64 0, .string tx, .int .i64 ta, .int .i64 tl, .int .i64 tc]] w fun e w' => e = .returned (.bool true) ∧ Below w.heap.size w w' := by
  have HB : Aside0 (∀ W, Calls Tryz.prog 144 #[.agg #[.int .i64 3, .int .i64 0, .string tx, .int .i64 ta, .int .i64 tl, .int .i64 tc]] W fun e w' => e = .returned (.agg #[.int .i64 3, .int .i64 0, .string tx]) ∧ Below W.heap.size W w') := ⟨fun W => bare_any ⟨3, 0, tx, ta, tl, tc⟩ W⟩
  have HSG : Aside0 (∀ W, Calls Tryz.prog 132 #[] W fun e w' => ∃ g, e = .returned (.slice (some ⟨g, 0, none⟩) 18 18) ∧ Aside0 (w'.heap[g]? = some (.cells (sgs.map Value.string).toArray 9)) ∧ Below W.heap.size W w') := ⟨fun W => (signs_any W).mono fun e w' ⟨he, hw⟩ => ⟨_, he, ⟨by rw [← hw]; exact heap_new W _⟩, by rw [← hw]; exact (Below.refl _ W).alloc (Nat.le_refl _) _⟩⟩
  have HCO : Aside0 (∀ (g : Nat) W, W.heap[g]? = some (.cells (sgs.map Value.string).toArray 9) → Calls Tryz.prog 32 #[.slice (some ⟨g, 0, none⟩) 18 18, .string tx] W fun e w' => e = .returned (.bool true) ∧ w' = W) := ⟨fun g W h => by
    have := contains_any sgs tx g 18 W (by decide) (fun k x hk => by rw [cell_of h k]; simp [hk])
    rw [hp] at this
    exact this⟩
  have hF : Aside0 (FormAt w 3 0 tx ta tl tc 0 ((w.alloc (.cells #[.int .i64 3, .int .i64 0, .string tx, .int .i64 ta, .int .i64 tl, .int .i64 tc] 54)).alloc (.cells #[.int .i64 3, .int .i64 0, .string tx] 184))) :=
    ⟨⟨heap_alloc (heap_new w _) _, heap_new' _ _ _ (by simp), ((Below.refl _ w).alloc (Nat.le_refl _) _).alloc (by simp) _⟩⟩
  clear hp
  · go_enter Tryz.func141, Tryz.ntmps141
    go_wp2
    generalize ((w.alloc (.cells #[.int .i64 3, .int .i64 0, .string tx, .int .i64 ta, .int .i64 tl, .int .i64 tc] 54)).alloc (.cells #[.int .i64 3, .int .i64 0, .string tx] 184)) = W1 at hF ⊢
    obtain ⟨g0, g1, g2, g3, g4, g5, h0, h1, h2⟩ := hF.out.cells
    have HF1 := Aside0.mk hF.out.drew
    go_region_held3 (fun W => W.cell? ⟨w.heap.size, 0, none⟩ = some (.int .i64 3) ∧ W.cell? ⟨w.heap.size, 1, none⟩ = some (.int .i64 0) ∧ W.cell? ⟨w.heap.size, 2, none⟩ = some (.string tx) ∧ W.cell? ⟨w.heap.size, 3, none⟩ = some (.int .i64 ta) ∧ W.cell? ⟨w.heap.size, 4, none⟩ = some (.int .i64 tl) ∧ W.cell? ⟨w.heap.size, 5, none⟩ = some (.int .i64 tc) ∧ W.cell? ⟨w.heap.size + 1, 0, none⟩ = some (.int .i64 3) ∧ W.cell? ⟨w.heap.size + 1, 1, none⟩ = some (.int .i64 0) ∧ W.cell? ⟨w.heap.size + 1, 2, none⟩ = some (.string tx) ∧ Aside0 (FormAt w 3 0 tx ta tl tc 0 W)) (go_keep) (first | (go_at_call 144; (with_reducible refine (HB.out _).mono ?_); rintro e w2 ⟨rfl, hb⟩; have hA : Aside0 (FormAt w 3 0 tx ta tl tc 0 w2) := ⟨FormAt.step (Aside0.out (by assumption)) hb⟩; obtain ⟨k0, k1, k2, k3, k4, k5, k6, k7, k8⟩ := hA.out.cells) | (go_at_call 132; (with_reducible refine (HSG.out _).mono ?_); rintro e w4 ⟨g, rfl, hg, hb⟩; have hA4 : Aside0 (FormAt w 3 0 tx ta tl tc 0 w4) := ⟨FormAt.step (Aside0.out (by assumption)) hb⟩; obtain ⟨m0, m1, m2, m3, m4, m5, m6, m7, m8⟩ := hA4.out.cells) | (go_at_call 32; (refine (HCO.out _ _ (Aside0.out (by assumption))).mono ?_); rintro e w3 ⟨rfl, rfl⟩))
    go_wp2
    go_ret
    exact ⟨rfl, (Aside0.out (by assumption) : FormAt w 3 0 tx ta tl tc 0 _).below⟩
end Go.Proofs.YtfnhjdehlikbaaaGreatDoor.Lx
namespace Go.Proofs.YtfnhjdehlikbaaaGreatDoor.Lx
open Go.RowKit Go.Proofs.YtfnhjdehlikbaaaGreatDoorW.PrintWords
def Pow (w : World) : Prop := Lib.TabIs Tryz.prog w "internal/strconv.uint64pow10" .u64 Lib.pow10Tab
theorem Pow.on {w w1 : World} (h : Pow w) (hb : Below w.heap.size w w1) : Pow w1 := by
  unfold Pow Lib.TabIs World.var? at *
  cases hg : Tryz.prog.globalNamed "internal/strconv.uint64pow10" with
  | none => simp [hg] at h
  | some g =>
    simp only [hg, Option.bind_some] at h ⊢
    have hlt : g < w.heap.size := by
      rcases Nat.lt_or_ge g w.heap.size with h' | h'
      · exact h'
      · rw [Array.getElem?_eq_none h'] at h; simp at h
    rw [hb.block g hlt]
    exact h
theorem below_grow (w : World) (k : Nat) (os : Array Obj) : Below w.heap.size w (Go.Sort.grow (w.drewN k) os) :=
  ⟨rfl, rfl, rfl, by show w.heap.size ≤ (w.heap ++ os).size; rw [Array.size_append]; omega, fun j hj => by show (w.heap ++ os)[j]? = w.heap[j]?; exact Array.getElem?_append_left hj⟩
theorem itoa_below (n : Int) (h0 : -9223372036854775808 ≤ n) (h1 : n ≤ 9223372036854775807) (w : World) (ht : Pow w) :
    Calls Tryz.prog 152 #[.int .i64 n] w fun e w' => e = .returned (.string ⟨(Lib.itoa n).toArray⟩) ∧ Below w.heap.size w w' :=
  (itoa_any n h0 h1 w ht).mono fun e w' ⟨he, k, os, hw⟩ => ⟨he, hw ▸ below_grow w k os⟩
set_option maxRecDepth 100000 in
set_option maxHeartbeats 8000000 in
theorem formed_num (num : Int) (tx : ByteArray) (ta tl tc : Int) (w : World) (ht : Pow w) (hs : tx.size ≤ 20) (hd : run isDigit tx 0 = tx.size) (h0 : 0 < tx.size) (hn : number tx = num) (hn0 : 0 ≤ num) (hn1 : num ≤ 1073741824) (hi : (⟨(Lib.itoa num).toArray⟩ : ByteArray) = tx) :
    Calls Tryz.prog 141 #[.agg #[.int .i64 2, .int .i64 num, .string tx, .int .i64 ta, .int .i64 tl, .int .i64 tc]] w fun e w' => e = .returned (.bool true) ∧ Below w.heap.size w w' := by
  have HB : Aside0 (∀ W, Calls Tryz.prog 144 #[.agg #[.int .i64 2, .int .i64 num, .string tx, .int .i64 ta, .int .i64 tl, .int .i64 tc]] W fun e w' => e = .returned (.agg #[.int .i64 2, .int .i64 num, .string tx]) ∧ Below W.heap.size W w') := ⟨fun W => bare_any ⟨2, num, tx, ta, tl, tc⟩ W⟩
  have hod : onlyD tx = tx := by unfold onlyD; rw [if_pos ⟨hd, hs⟩]
  have HOD : Aside0 (∀ W, Calls Tryz.prog 151 #[.string tx] W fun e w' => e = .returned (.string tx) ∧ W = w') := ⟨fun W => by
    have := onlyDigits_any tx W (by omega)
    rwa [hod] at this⟩
  have HNU : Aside0 (∀ W, Calls Tryz.prog 134 #[.string tx] W fun e w' => e = .returned (.int .i64 num) ∧ Below W.heap.size W w') := ⟨fun W => by
    have := number_any tx W (by omega) (allDigits_of_run hd)
    rwa [hn] at this⟩
  have HIT : Aside0 (∀ W, Pow W → Calls Tryz.prog 152 #[.int .i64 num] W fun e w' => e = .returned (.string tx) ∧ Below W.heap.size W w') := ⟨fun W hW => by
    have := itoa_below num (by omega) (by omega) W hW
    rwa [hi] at this⟩
  have hF0 : FormAt w 2 num tx ta tl tc 0 ((w.alloc (.cells #[.int .i64 2, .int .i64 num, .string tx, .int .i64 ta, .int .i64 tl, .int .i64 tc] 54)).alloc (.cells #[.int .i64 2, .int .i64 0, .string tx] 184)) :=
    ⟨heap_alloc (heap_new w _) _, heap_new' _ _ _ (by simp), ((Below.refl _ w).alloc (Nat.le_refl _) _).alloc (by simp) _⟩
  have hne : tx.toList.isEmpty = false := by
    have : ¬ tx.toList = [] := fun h => by have := toList_nil.1 h; omega
    simpa [List.isEmpty_iff] using this
  have HF0 := Aside0.mk hF0; clear hF0 hod hd hn hi
  · go_enter Tryz.func141, Tryz.ntmps141
    go_wp2_with (first | (go_at_call 151; (with_reducible refine (HOD.out _).mono ?_); rintro e w1 ⟨rfl, rfl⟩) | (go_at_call 134; (with_reducible refine (HNU.out _).mono ?_); rintro e w1 ⟨rfl, hb⟩; have hF1 := Aside0.mk (HF0.out.step hb); obtain ⟨k0, k1, k2, k3, k4, k5, k6, k7, k8⟩ := hF1.out.cells; have hf7 : w1.frozen? ⟨w.heap.size + 1, 1, none⟩ = false := free_of hF1.out.want 1; clear hb))
    have hF : Aside0 (FormAt w 2 num tx ta tl tc num (w1.setCell ⟨w.heap.size + 1, 1, none⟩ (.int .i64 num))) := ⟨⟨(heap_set_other (by simp) _).trans hF1.out.box, heap_set hF1.out.want 1 _, hF1.out.below.setCell (by simp) _⟩⟩
    clear k0 k1 k2 k3 k4 k5 k6 k7 k8 hf7
    generalize (w1.setCell ⟨w.heap.size + 1, 1, none⟩ (.int .i64 num)) = W1 at hF ⊢
    obtain ⟨g0, g1, g2, g3, g4, g5, h0, h1, h2⟩ := hF.out.cells
    have HF1 := Aside0.mk hF.out.drew
    have HT := Aside0.mk ht; clear ht
    go_region_held3 (fun W => W.cell? ⟨w.heap.size, 0, none⟩ = some (.int .i64 2) ∧ W.cell? ⟨w.heap.size, 1, none⟩ = some (.int .i64 num) ∧ W.cell? ⟨w.heap.size, 2, none⟩ = some (.string tx) ∧ W.cell? ⟨w.heap.size, 3, none⟩ = some (.int .i64 ta) ∧ W.cell? ⟨w.heap.size, 4, none⟩ = some (.int .i64 tl) ∧ W.cell? ⟨w.heap.size, 5, none⟩ = some (.int .i64 tc) ∧ W.cell? ⟨w.heap.size + 1, 0, none⟩ = some (.int .i64 2) ∧ W.cell? ⟨w.heap.size + 1, 1, none⟩ = some (.int .i64 num) ∧ W.cell? ⟨w.heap.size + 1, 2, none⟩ = some (.string tx) ∧ Aside0 (FormAt w 2 num tx ta tl tc num W)) (go_keep) (first | (go_at_call 144; (with_reducible refine (HB.out _).mono ?_); rintro e w2 ⟨rfl, hb⟩; have hA : Aside0 (FormAt w 2 num tx ta tl tc num w2) := ⟨FormAt.step (Aside0.out (by assumption)) hb⟩; obtain ⟨k0, k1, k2, k3, k4, k5, k6, k7, k8⟩ := hA.out.cells) | (go_at_call 151; (with_reducible refine (HOD.out _).mono ?_); rintro e w4 ⟨rfl, rfl⟩) | (go_at_call 152; (refine (HIT.out _ (Pow.on HT.out (Aside0.out (by assumption) : FormAt w 2 num tx ta tl tc num _).below)).mono ?_); rintro e w3 ⟨rfl, hb⟩; have hA3 : Aside0 (FormAt w 2 num tx ta tl tc num w3) := ⟨FormAt.step (Aside0.out (by assumption)) hb⟩; obtain ⟨l0, l1, l2, l3, l4, l5, l6, l7, l8⟩ := hA3.out.cells))
    go_wp2
    go_ret
    exact ⟨rfl, (Aside0.out (by assumption) : FormAt w 2 num tx ta tl tc num _).below⟩
end Go.Proofs.YtfnhjdehlikbaaaGreatDoor.Lx
namespace Go.Proofs.YtfnhjdehlikbaaaGreatDoor.Lx
open Go.RowKit Go.Proofs.YtfnhjdehlikbaaaGreatDoorW.PrintWords
def WfT (t : Tok) : Prop :=
  (t.kind = 1 ∧ t.num = 0 ∧ pathF t.text = true ∧ isKw t.text = false) ∨
  (t.kind = 2 ∧ t.text.size ≤ 20 ∧ run isDigit t.text 0 = t.text.size ∧ 0 < t.text.size ∧ number t.text = t.num ∧ 0 ≤ t.num ∧ t.num ≤ 1073741824 ∧ (⟨(Lib.itoa t.num).toArray⟩ : ByteArray) = t.text) ∨
  (t.kind = 3 ∧ t.num = 0 ∧ among sgs t.text = true) ∨
  (t.kind = 4 ∧ t.num = 0 ∧ isKw t.text = true)
theorem formed_ok (t : Tok) (w : World) (ht : Pow w) (hs : t.text.size ≤ 140737488351232) (h : WfT t) : Calls Tryz.prog 141 #[.agg t.cells] w fun e w' => e = .returned (.bool true) ∧ Below w.heap.size w w' := by
  obtain ⟨tk, tn, tx, ta, tl, tc⟩ := t
  simp only [WfT] at h hs
  simp only [Tok.cells]
  rcases h with ⟨rfl, rfl, h1, h2⟩ | ⟨rfl, h1, h2, h3, h4, h5, h6, h7⟩ | ⟨rfl, rfl, h1⟩ | ⟨rfl, rfl, h1⟩
  · exact formed_word tx ta tl tc w hs h1 h2
  · exact formed_num tn tx ta tl tc w ht h1 h2 h3 h4 h5 h6 h7
  · exact formed_sign tx ta tl tc w h1
  · exact h1 ▸ formed_key0 tx ta tl tc w
structure GoodT (b t : Tok) : Prop where
  wf : WfT t
  a0 : 0 ≤ t.at_
  a1 : t.at_ ≤ 65536
  l0 : 0 ≤ t.line
  l1 : t.line ≤ 65536
  c0 : 0 ≤ t.col
  c1 : t.col ≤ 65536
  sz : t.text.size ≤ 65536
  line : b.line ≤ t.line
  same : b.line = t.line → b.col + b.text.size ≤ t.col
  at_ : b.at_ + b.text.size ≤ t.at_
theorem WfT.kind {t : Tok} (h : WfT t) : 1 ≤ t.kind ∧ t.kind ≤ 4 := by
  rcases h with ⟨h, _⟩ | ⟨h, _⟩ | ⟨h, _⟩ | ⟨h, _⟩ <;> omega
set_option maxRecDepth 100000 in
set_option maxHeartbeats 4000000 in
theorem tokenError_ok (t b : Tok) (w : World) (ht : Pow w) (h : GoodT b t) (hb0 : 0 ≤ b.at_) (hb1 : 0 ≤ b.col) (hb2 : b.text.size ≤ 65536) (hb3 : b.at_ ≤ 65536) (hb4 : b.col ≤ 65536) :
    Calls Tryz.prog 106 #[.agg t.cells, .agg b.cells] w fun e w' => e = .returned (.int .i64 0) ∧ Below w.heap.size w w' := by
  obtain ⟨hk1, hk2⟩ := h.wf.kind
  have HFO0 := fun W (hW : Pow W) => formed_ok t W hW (by have := h.sz; omega) h.wf
  obtain ⟨hwf, g1, g2, g3, g4, g5, g6, g7, g8, g9, g10⟩ := h
  obtain ⟨tk, tn, tx, ta, tl, tc⟩ := t
  obtain ⟨bk, bn, bx, ba, bl, bc⟩ := b
  simp only [Tok.cells] at *
  have HFO := Aside0.mk HFO0; clear HFO0 hwf
  have hfa : ∀ n : Int, 0 ≤ n → n ≤ 65536 → Aside0 (∀ W, Calls Tryz.prog 140 #[.int .i64 n] W fun e w' => e = .returned (.bool false) ∧ W = w') := fun n h0 h1 => ⟨fun W => by
    have := far_any n W
    have e : farF n = false := by simp [farF]; omega
    rwa [e] at this⟩
  have HA := hfa ta g1 g2
  have HL := hfa tl g3 g4
  have HC := hfa tc g5 g6
  clear hfa
  have n1 : decide (tk < 1) = false := by simp; omega
  have n2 : decide (tk > 4) = false := by simp; omega
  have n3 : decide (tl < bl) = false := by simp; omega
  have n4 : decide (ta < ba + (bx.size : Int)) = false := by simp; omega
  have HT := Aside0.mk ht; clear ht
  have HB0 : Aside0 (Below w.heap.size w ((w.alloc (.cells #[.int .i64 tk, .int .i64 tn, .string tx, .int .i64 ta, .int .i64 tl, .int .i64 tc] 54)).alloc (.cells #[.int .i64 bk, .int .i64 bn, .string bx, .int .i64 ba, .int .i64 bl, .int .i64 bc] 54))) := ⟨((Below.refl _ w).alloc (Nat.le_refl _) _).alloc (by simp) _⟩
  have hq0 : ((w.alloc (.cells #[.int .i64 tk, .int .i64 tn, .string tx, .int .i64 ta, .int .i64 tl, .int .i64 tc] 54)).alloc (.cells #[.int .i64 bk, .int .i64 bn, .string bx, .int .i64 ba, .int .i64 bl, .int .i64 bc] 54)).heap[w.heap.size]? = some (.cells #[.int .i64 tk, .int .i64 tn, .string tx, .int .i64 ta, .int .i64 tl, .int .i64 tc] 54) := heap_alloc (heap_new w _) _
  have hq1 : ((w.alloc (.cells #[.int .i64 tk, .int .i64 tn, .string tx, .int .i64 ta, .int .i64 tl, .int .i64 tc] 54)).alloc (.cells #[.int .i64 bk, .int .i64 bn, .string bx, .int .i64 ba, .int .i64 bl, .int .i64 bc] 54)).heap[w.heap.size + 1]? = some (.cells #[.int .i64 bk, .int .i64 bn, .string bx, .int .i64 ba, .int .i64 bl, .int .i64 bc] 54) := heap_new' _ _ _ (by simp)
  have HQ0 := Aside0.mk hq0
  have HQ1 := Aside0.mk hq1
  clear hq0 hq1
  by_cases c : bl = tl
  · subst c
    have n5 : decide (tc < bc + (bx.size : Int)) = false := by have := g9 rfl; simp; omega
    clear g9
    go_enter Tryz.func106, Tryz.ntmps106
    go_wp2_with (first | (go_at_call 140; (with_reducible refine (HA.out _).mono ?_); rintro e w1 ⟨rfl, rfl⟩) | (go_at_call 140; (with_reducible refine (HL.out _).mono ?_); rintro e w1 ⟨rfl, rfl⟩) | (go_at_call 140; (with_reducible refine (HC.out _).mono ?_); rintro e w1 ⟨rfl, rfl⟩) | (go_at_call 141; (refine (HFO.out _ (Pow.on HT.out HB0.out)).mono ?_); rintro e w1 ⟨rfl, hb⟩; have HBB := Aside0.mk hb; have e0 := (hb.block _ (heap_lt HQ0.out)).trans HQ0.out; have e1 := (hb.block _ (heap_lt HQ1.out)).trans HQ1.out; have z3 : w1.cell? ⟨w.heap.size, 3, none⟩ = some (.int .i64 ta) := cell_of e0 3; have z4 : w1.cell? ⟨w.heap.size, 4, none⟩ = some (.int .i64 bl) := cell_of e0 4; have z5 : w1.cell? ⟨w.heap.size, 5, none⟩ = some (.int .i64 tc) := cell_of e0 5; have y3 : w1.cell? ⟨w.heap.size + 1, 3, none⟩ = some (.int .i64 ba) := cell_of e1 3; have y4 : w1.cell? ⟨w.heap.size + 1, 4, none⟩ = some (.int .i64 bl) := cell_of e1 4; have y5 : w1.cell? ⟨w.heap.size + 1, 5, none⟩ = some (.int .i64 bc) := cell_of e1 5; clear hb e0 e1))
    go_ret
    exact ⟨rfl, HB0.out.trans (HBB.out.mono HB0.out.size)⟩
  · have n5 : (tl == bl) = false := by simp; omega
    have n6 : ¬ tl = bl := fun h => c h.symm
    clear g9
    go_enter Tryz.func106, Tryz.ntmps106
    go_wp2_with (first | (go_at_call 140; (with_reducible refine (HA.out _).mono ?_); rintro e w1 ⟨rfl, rfl⟩) | (go_at_call 140; (with_reducible refine (HL.out _).mono ?_); rintro e w1 ⟨rfl, rfl⟩) | (go_at_call 140; (with_reducible refine (HC.out _).mono ?_); rintro e w1 ⟨rfl, rfl⟩) | (go_at_call 141; (refine (HFO.out _ (Pow.on HT.out HB0.out)).mono ?_); rintro e w1 ⟨rfl, hb⟩; have HBB := Aside0.mk hb; have e0 := (hb.block _ (heap_lt HQ0.out)).trans HQ0.out; have e1 := (hb.block _ (heap_lt HQ1.out)).trans HQ1.out; have z3 : w1.cell? ⟨w.heap.size, 3, none⟩ = some (.int .i64 ta) := cell_of e0 3; have z4 : w1.cell? ⟨w.heap.size, 4, none⟩ = some (.int .i64 tl) := cell_of e0 4; have z5 : w1.cell? ⟨w.heap.size, 5, none⟩ = some (.int .i64 tc) := cell_of e0 5; have y3 : w1.cell? ⟨w.heap.size + 1, 3, none⟩ = some (.int .i64 ba) := cell_of e1 3; have y4 : w1.cell? ⟨w.heap.size + 1, 4, none⟩ = some (.int .i64 bl) := cell_of e1 4; have y5 : w1.cell? ⟨w.heap.size + 1, 5, none⟩ = some (.int .i64 bc) := cell_of e1 5; clear hb e0 e1))
    go_ret
    exact ⟨rfl, HB0.out.trans (HBB.out.mono HB0.out.size)⟩
def GoodL (l : List Tok) : Prop := ∀ i t, l[i]? = some t → GoodT (if i = 0 then tokZ else l[i - 1]?.getD tokZ) t
def TokAt (g : Nat) (l : List Tok) (W : World) : Prop := ∃ cs f, W.heap[g]? = some (.cells cs 54 f) ∧ ∀ i t, l[i]? = some t → ∀ j v, t.cells.toList[j]? = some v → cs[i * 6 + j]? = some v
theorem TokAt.below {g : Nat} {l : List Tok} {W W' : World} (h : TokAt g l W) (hb : Below W.heap.size W W') : TokAt g l W' := by
  obtain ⟨cs, f, h1, h2⟩ := h
  exact ⟨cs, f, (hb.block _ (heap_lt h1)).trans h1, h2⟩
theorem TokAt.cell {g : Nat} {l : List Tok} {W : World} (h : TokAt g l W) {i : Nat} {t : Tok} (ht : l[i]? = some t) :
    W.cell? ⟨g, i * 6, none⟩ = some (.int .i64 t.kind) ∧ W.cell? ⟨g, i * 6 + 1, none⟩ = some (.int .i64 t.num) ∧ W.cell? ⟨g, i * 6 + 2, none⟩ = some (.string t.text) ∧ W.cell? ⟨g, i * 6 + 3, none⟩ = some (.int .i64 t.at_) ∧ W.cell? ⟨g, i * 6 + 4, none⟩ = some (.int .i64 t.line) ∧ W.cell? ⟨g, i * 6 + 5, none⟩ = some (.int .i64 t.col) := by
  obtain ⟨cs, f, h1, h2⟩ := h
  have h3 := h2 i t ht
  exact ⟨(cell_of h1 _).trans (h3 0 _ rfl), (cell_of h1 _).trans (h3 1 _ rfl), (cell_of h1 _).trans (h3 2 _ rfl), (cell_of h1 _).trans (h3 3 _ rfl), (cell_of h1 _).trans (h3 4 _ rfl), (cell_of h1 _).trans (h3 5 _ rfl)⟩
end Go.Proofs.YtfnhjdehlikbaaaGreatDoor.Lx
namespace Go.Proofs.YtfnhjdehlikbaaaGreatDoor.Lx
open Go.RowKit Go.Proofs.YtfnhjdehlikbaaaGreatDoorW.PrintWords
def prevT (l : List Tok) (i : Nat) : Tok := if i = 0 then tokZ else l[i - 1]?.getD tokZ
theorem prevT_le {l : List Tok} (h : GoodL l) {i : Nat} (hi : i ≤ l.length) : 0 ≤ (prevT l i).at_ ∧ 0 ≤ (prevT l i).col ∧ (prevT l i).text.size ≤ 65536 ∧ (prevT l i).at_ ≤ 65536 ∧ (prevT l i).col ≤ 65536 := by
  unfold prevT
  split
  · exact ⟨Int.le_refl _, Int.le_refl _, by show (0 : Nat) ≤ 65536; omega, by show (0 : Int) ≤ 65536; omega, by show (0 : Int) ≤ 65536; omega⟩
  · have hlt : i - 1 < l.length := by omega
    have g := h (i - 1) l[i - 1] (List.getElem?_eq_getElem hlt)
    rw [List.getElem?_eq_getElem hlt]
    exact ⟨g.a0, g.c0, g.sz, g.a1, g.c1⟩
structure ListAt (w : World) (b : Tok) (W : World) : Prop where
  box : W.heap[w.heap.size]? = some (.cells b.cells 54)
  below : Below w.heap.size w W
set_option maxRecDepth 100000 in
set_option maxHeartbeats 4000000 in
theorem listError_nil (A : Option Addr) (c : Nat) (w : World) :
    Calls Tryz.prog 67 #[.slice A 0 c] w fun e w' => e = .returned (.tuple #[.int .i64 0, .int .i64 0]) ∧ Below w.heap.size w w' := by
  go_enter Tryz.func67, Tryz.ntmps67
  go_wp2
  go_loopw [14] (fun i wr => i = .int .i64 0 ∧ Aside0 (Below w.heap.size w wr)) (fun _ _ => 0)
  case atStart => exact ⟨rfl, ⟨(Below.refl _ w).alloc (Nat.le_refl _) _⟩⟩
  case round =>
    obtain ⟨rfl, hb⟩ := hrel
    go_wp2
    go_ret2
    exact ⟨rfl, hb.out⟩
set_option maxRecDepth 100000 in
set_option maxHeartbeats 8000000 in
theorem listError_ok (l : List Tok) (g c : Nat) (w : World) (ht : Pow w) (hl : l.length ≤ 4000) (hg : GoodL l) (hT : TokAt g l w) :
    Calls Tryz.prog 67 #[.slice (some ⟨g, 0, none⟩) l.length c] w fun e w' => e = .returned (.tuple #[.int .i64 0, .int .i64 0]) ∧ Below w.heap.size w w' := by
  have HT := Aside0.mk ht; clear ht
  have HG := Aside0.mk hg; clear hg
  have HTK := Aside0.mk hT; clear hT
  have hgl : g < w.heap.size := by
    obtain ⟨cs, f, h1, _⟩ := HTK.out
    exact heap_lt h1
  go_enter Tryz.func67, Tryz.ntmps67
  go_wp2
  go_loopg [14] l.length (fun n i wr => ∃ k : Nat, k + n = l.length ∧ i = .int .i64 (k : Int) ∧ Aside0 (ListAt w (prevT l k) wr))
  case atStart => exact ⟨0, by omega, rfl, ⟨heap_new w _, (Below.refl _ w).alloc (Nat.le_refl _) _⟩⟩
  case round =>
    obtain ⟨k, hk, rfl, hA⟩ := hrel
    by_cases hlt : k < l.length
    · have hbel := hA.out.below
      have hbz := heap_lt hA.out.box
      have hgood := HG.out k l[k] (List.getElem?_eq_getElem hlt)
      obtain ⟨p1, p2, p3, p4, p5⟩ := prevT_le HG.out (show k ≤ l.length by omega)
      have HTE0 := fun W (hW : Pow W) => tokenError_ok l[k] (prevT l k) W hW hgood p1 p2 p3 p4 p5
      have hnext : prevT l (k + 1) = l[k] := by simp [prevT, hlt]
      obtain ⟨q0, q1, q2, q3, q4, q5⟩ := (HTK.out.below hbel).cell (List.getElem?_eq_getElem hlt)
      have hAb := hA.out.box
      generalize l[k] = t at HTE0 hnext q0 q1 q2 q3 q4 q5
      generalize prevT l k = b at HTE0 hA hAb
      obtain ⟨tk, tn, tx, ta, tl, tc⟩ := t
      obtain ⟨bk, bn, bx, ba, bl, bc⟩ := b
      simp only [Tok.cells] at *
      have HTE := Aside0.mk HTE0; clear HTE0
      have HN := Aside0.mk hnext; clear hnext hgood
      have b0 : wr.cell? ⟨w.heap.size, 0, none⟩ = some (.int .i64 bk) := cell_of hAb 0
      have b1 : wr.cell? ⟨w.heap.size, 1, none⟩ = some (.int .i64 bn) := cell_of hAb 1
      have b2 : wr.cell? ⟨w.heap.size, 2, none⟩ = some (.string bx) := cell_of hAb 2
      have b3 : wr.cell? ⟨w.heap.size, 3, none⟩ = some (.int .i64 ba) := cell_of hAb 3
      have b4 : wr.cell? ⟨w.heap.size, 4, none⟩ = some (.int .i64 bl) := cell_of hAb 4
      have b5 : wr.cell? ⟨w.heap.size, 5, none⟩ = some (.int .i64 bc) := cell_of hAb 5
      have HAB := Aside0.mk hAb; clear hAb
      have HBE := Aside0.mk hbel; clear hbel
      have hne : w.heap.size ≠ wr.heap.size := by omega
      go_wp2_with (go_at_call 106; (refine (HTE.out _ (HT.out.on (HBE.out.alloc HBE.out.size _))).mono ?_); rintro e w1 ⟨rfl, hb⟩; have HBB := Aside0.mk hb; have e0 := (hb.block wr.heap.size (by simp)).trans (heap_new wr (.cells #[.int .i64 tk, .int .i64 tn, .string tx, .int .i64 ta, .int .i64 tl, .int .i64 tc] 54)); have e1 := (hb.block w.heap.size (by simp; omega)).trans (heap_alloc HAB.out (.cells #[.int .i64 tk, .int .i64 tn, .string tx, .int .i64 ta, .int .i64 tl, .int .i64 tc] 54)); have z0 : w1.cell? ⟨wr.heap.size, 0, none⟩ = some (.int .i64 tk) := cell_of e0 0; have z1 : w1.cell? ⟨wr.heap.size, 1, none⟩ = some (.int .i64 tn) := cell_of e0 1; have z2 : w1.cell? ⟨wr.heap.size, 2, none⟩ = some (.string tx) := cell_of e0 2; have z3 : w1.cell? ⟨wr.heap.size, 3, none⟩ = some (.int .i64 ta) := cell_of e0 3; have z4 : w1.cell? ⟨wr.heap.size, 4, none⟩ = some (.int .i64 tl) := cell_of e0 4; have z5 : w1.cell? ⟨wr.heap.size, 5, none⟩ = some (.int .i64 tc) := cell_of e0 5; have y0 : w1.cell? ⟨w.heap.size, 0, none⟩ = some (.int .i64 bk) := cell_of e1 0; have y1 : w1.cell? ⟨w.heap.size, 1, none⟩ = some (.int .i64 bn) := cell_of e1 1; have y2 : w1.cell? ⟨w.heap.size, 2, none⟩ = some (.string bx) := cell_of e1 2; have y3 : w1.cell? ⟨w.heap.size, 3, none⟩ = some (.int .i64 ba) := cell_of e1 3; have y4 : w1.cell? ⟨w.heap.size, 4, none⟩ = some (.int .i64 bl) := cell_of e1 4; have y5 : w1.cell? ⟨w.heap.size, 5, none⟩ = some (.int .i64 bc) := cell_of e1 5; have yf := fun i => free_of e1 i; have HE1 := Aside0.mk e1; clear hb e0 e1)
      cases gk with
      | zero => omega
      | succ n =>
        go_roundg n
        case measure => omega
        case rel => exact ⟨k + 1, by omega, by go_num, ⟨by rw [HN.out]; exact set6 HE1.out _ _ _ _ _ _, below_set6 ((HBE.out.alloc HBE.out.size _).trans (HBB.out.mono (by simp; omega))) (Nat.le_refl _) _ _ _ _ _ _⟩⟩
    · obtain rfl : k = l.length := by omega
      go_wp2
      go_ret2
      exact ⟨rfl, hA.out.below⟩
end Go.Proofs.YtfnhjdehlikbaaaGreatDoor.Lx
namespace Go.Proofs.YtfnhjdehlikbaaaGreatDoor.Lx
open Go.RowKit Go.Proofs.YtfnhjdehlikbaaaGreatDoorW.PrintWords
set_option maxRecDepth 100000 in
theorem backward_any (A : Option Addr) (n c : Nat) (w : World) :
    Calls Tryz.prog 145 #[.slice A n c] w fun e w' => e = .returned (.func (.func 153) #[] #[.pointer (some ⟨w.heap.size, 0, none⟩)]) ∧ w.alloc (.cells #[.slice A n c] 132) = w' := by
  go_enter Tryz.func145, Tryz.ntmps145
  go_wp2
  go_ret
  exact ⟨rfl, rfl⟩
def LevAt (A : Option Addr) (xs : List Lev) (W : World) : Prop := ∀ k x, xs[k]? = some x → ∃ g, A = some ⟨g, 0, none⟩ ∧ W.cell? ⟨g, k * 3, none⟩ = some (.bool x.block) ∧ W.cell? ⟨g, k * 3 + 1, none⟩ = some (.int .i64 x.col) ∧ W.cell? ⟨g, k * 3 + 2, none⟩ = some (.string x.text)
structure BackCaller (l bs : Nat) (A : Option Addr) (c : Nat) (xs : List Lev) (J : World → Prop) (Jx : Lev → World → Prop) : Prop where
  box : ∀ W, J W → W.heap[bs]? = some (.cells #[.slice A xs.length c] 132)
  lev : ∀ W, J W → LevAt A xs W
  more : ∀ W k x, J W → xs[k]? = some x → x.block = false → YieldAt Fence.wide 0 Tryz.prog l #[.int .i64 (k : Nat), .agg x.cells] W (fun e W' => e = .returned (.bool true) ∧ J W')
  stop : ∀ W k x, J W → xs[k]? = some x → x.block = true → YieldAt Fence.wide 0 Tryz.prog l #[.int .i64 (k : Nat), .agg x.cells] W (fun e W' => e = .returned (.bool false) ∧ Jx x W')
theorem find_drop {xs : List Lev} {k : Nat} {x : Lev} (h : xs[k]? = some x) : (xs.drop k).reverse.find? (·.block) = ((xs.drop (k + 1)).reverse.find? (·.block)).or (if x.block then some x else none) := by
  obtain ⟨hlt, hx⟩ := List.getElem?_eq_some_iff.1 h
  rw [List.drop_eq_getElem_cons hlt, hx, List.reverse_cons, List.find?_append]
  congr 1
  cases hb : x.block <;> simp [hb]
def BackEnd (xs : List Lev) (J : World → Prop) (Jx : Lev → World → Prop) (W' : World) : Prop := (xs.reverse.find? (·.block) = none ∧ J W') ∨ (∃ x, xs.reverse.find? (·.block) = some x ∧ Jx x W')
set_option maxRecDepth 100000 in
set_option maxHeartbeats 8000000 in
theorem back1_any (l bs : Nat) (A : Option Addr) (c : Nat) (xs : List Lev) (J : World → Prop) (Jx : Lev → World → Prop) (hc : BackCaller l bs A c xs J Jx) (W : World) (hJ0 : J W) (hlen : xs.length ≤ 1000000000) :
    Calls Tryz.prog 153 #[.func (.yield l) #[] #[], .pointer (some ⟨bs, 0, none⟩)] W fun e W' => (∃ v, e = .returned v) ∧ BackEnd xs J Jx W' := by
  have hb0 : W.cell? ⟨bs, 0, none⟩ = some (.slice A xs.length c) := cell_of (hc.box W hJ0) 0
  have HC := Aside0.mk hc; clear hc
  have HJ := Aside0.mk hJ0; clear hJ0
  go_enter Tryz.func153, Tryz.ntmps153
  go_wp2
  go_loopg [3] (xs.length + 1) (fun f t3 wr => ∃ i : Int, t3 = .int .i64 i ∧ -1 ≤ i ∧ i < xs.length ∧ (f : Int) = i + 2 ∧ Aside0 (J wr ∧ (xs.drop (i + 1).toNat).reverse.find? (·.block) = none))
  case atStart =>
    refine ⟨(xs.length : Int) - 1, rfl, by omega, by omega, by omega, ⟨HJ.out, ?_⟩⟩
    rw [show ((xs.length : Int) - 1 + 1).toNat = xs.length by omega, List.drop_length]
    rfl
  case round =>
    clear HJ hb0
    obtain ⟨i, rfl, hi1, hi2, hf, hA⟩ := hrel
    have hb0 : wr.cell? ⟨bs, 0, none⟩ = some (.slice A xs.length c) := cell_of (HC.out.box wr hA.out.1) 0
    by_cases hneg : 0 ≤ i
    · obtain ⟨k, rfl⟩ : ∃ k : Nat, i = (k : Int) := ⟨i.toNat, by omega⟩
      have hlt : k < xs.length := by omega
      obtain ⟨x, hx⟩ : ∃ x, xs[k]? = some x := ⟨xs[k], List.getElem?_eq_getElem hlt⟩
      obtain ⟨g, hAg, q0, q1, q2⟩ := HC.out.lev wr hA.out.1 k x hx
      rw [hAg] at hb0
      have HAg := Aside0.mk hAg; clear hAg
      have hfd := find_drop hx
      have hA2 := hA.out.2
      rw [show ((k : Int) + 1).toNat = k + 1 by omega] at hA2
      rw [hA2, Option.none_or] at hfd
      have HX := Aside0.mk hx
      cases hxb : x.block with
      | false =>
        rw [hxb] at hfd q0
        obtain ⟨fn, tmps, asg, body, hy, hR⟩ := HC.out.more wr k x hA.out.1 hx hxb
        have HFD := Aside0.mk hfd; clear hfd hA2 hx
        obtain ⟨xb, xc, xt⟩ := x
        simp only at hxb
        subst hxb
        simp only [Lev.cells] at hy q0 q1 q2
        have HR := Aside0.mk hR; clear hR
        refine (wpIn_wide (n := 1)).1 ?_
        gi_wp2
        refine HR.out.mono ?_
        rintro e W6 ⟨rfl, hj6⟩
        have HJ6 := Aside0.mk hj6
        have hb6 : W6.cell? ⟨bs, 0, none⟩ = some (.slice (some ⟨g, 0, none⟩) xs.length c) := HAg.out ▸ cell_of (HC.out.box W6 hj6) 0
        clear hj6
        gi_wp2
        go_wp2
        cases gk with
        | zero => omega
        | succ n =>
          go_roundg n
          case measure => omega
          case rel =>
            refine ⟨(k : Int) - 1, by go_num, by omega, by omega, by omega, ⟨HJ6.out, ?_⟩⟩
            rw [show ((k : Int) - 1 + 1).toNat = k by omega, HFD.out]
            rfl
      | true =>
        rw [hxb] at hfd q0
        obtain ⟨fn, tmps, asg, body, hy, hR⟩ := HC.out.stop wr k x hA.out.1 hx hxb
        have hfa : xs.reverse.find? (·.block) = some x := by
          conv => lhs; rw [← List.take_append_drop k xs, List.reverse_append, List.find?_append]
          rw [hfd]
          simp
        have HFA := Aside0.mk hfa; clear hfd hA2 hx hfa
        obtain ⟨xb, xc, xt⟩ := x
        simp only at hxb
        subst hxb
        simp only [Lev.cells] at hy q0 q1 q2
        have HR := Aside0.mk hR; clear hR
        refine (wpIn_wide (n := 1)).1 ?_
        gi_wp2
        refine HR.out.mono ?_
        rintro e W6 ⟨rfl, hj6⟩
        have HJ6 := Aside0.mk hj6
        clear hj6
        gi_wp2
        go_wp2
        refine bodyPost_ret (results_none rfl _ _ _) rfl ⟨⟨_, rfl⟩, .inr ⟨_, HFA.out, HJ6.out⟩⟩
    · obtain rfl : i = -1 := by omega
      have hA2 := hA.out.2
      simp only [show ((-1 : Int) + 1).toNat = 0 by rfl, List.drop_zero] at hA2
      have HA2 := Aside0.mk hA2; clear hA2
      go_wp2
      go_end0
      exact ⟨⟨_, rfl⟩, .inl ⟨HA2.out, hA.out.1⟩⟩
end Go.Proofs.YtfnhjdehlikbaaaGreatDoor.Lx
namespace Go.Proofs.YtfnhjdehlikbaaaGreatDoor.Lx
open Go.RowKit Go.Proofs.YtfnhjdehlikbaaaGreatDoorW.PrintWords
theorem wp_range_back {g : Operand} {ps : Array Tmp} {assign body : Code} {Q : Exit → Act → World → Prop} {a : Act} {W0 : World} {bs c : Nat} {A : Option Addr} {xs : List Lev}
    (D : Nat) (hDeq : W0.heap.size = D) (hg : a.eval g = .func (.func 153) #[] #[.pointer (some ⟨bs, 0, none⟩)]) (hps : ps.size = 2) (hlen : xs.length ≤ 1000000000)
    (C : World → Prop) (Cx : Lev → World → Prop) (h0 : C W0)
    (hbox : ∀ W, C W → W.heap[bs]? = some (.cells #[.slice A xs.length c] 132)) (hlev : ∀ W, C W → LevAt A xs W)
    (hstay : ∀ W W', C W → Keep (fun k => W0.heap.size ≤ k) W W' → C W')
    (hxstay : ∀ x W W', Cx x W → Keep (fun k => W0.heap.size ≤ k) W W' → Cx x W')
    (hmore : ∀ l W k x, C W → xs[k]? = some x → x.block = false → l < W.heap.size → W0.heap.size ≤ l →
      assign.wpIn (Fence.wide.inRound l) 0 Tryz.prog (Exit.then (fun a1 w1 => Keep (fun _ => False) W w1 ∧ ∀ w2, Keep (· = l) w1 w2 →
        body.wpIn (Fence.wide.inRound l) 0 Tryz.prog (fun e _ W3 => e = .normal ∧ Keep (fun _ => False) w2 W3) a1 w2) (fun _ _ _ => False))
        { tmps := (ps.zip #[.int .i64 (k : Nat), .agg x.cells]).foldl (fun tm (p, v) => tm.setIfInBounds p v) a.tmps, defers := [] } W)
    (hstop : ∀ l W k x, C W → xs[k]? = some x → x.block = true → l < W.heap.size → W0.heap.size ≤ l →
      assign.wpIn (Fence.wide.inRound l) 0 Tryz.prog (Exit.then (fun a1 w1 => Keep (fun _ => False) W w1 ∧ ∀ w2, Keep (· = l) w1 w2 →
        body.wpIn (Fence.wide.inRound l) 0 Tryz.prog (fun e _ W3 => e = .ret ∧ Cx x W3 ∧ Keep (fun k => k < W0.heap.size) w2 W3) a1 w2) (fun _ _ _ => False))
        { tmps := (ps.zip #[.int .i64 (k : Nat), .agg x.cells]).foldl (fun tm (p, v) => tm.setIfInBounds p v) a.tmps, defers := [] } W)
    (hdone : ∀ W, xs.reverse.find? (·.block) = none → C W → W.heap[D]? = some (.deferred (some [])) → Q .normal { a with defers := { target := .collected D, args := #[] } :: a.defers } W)
    (hret : ∀ x W, xs.reverse.find? (·.block) = some x → Cx x W → W.heap[D]? = some (.deferred (some [])) → Q .ret { a with defers := { target := .collected D, args := #[] } :: a.defers } W) :
    (Code.rangeFunc g ps assign body).wp Tryz.prog Q a W0 := by
  subst hDeq
  refine (wpIn_wide (n := 3)).1 ?_
  refine wpIn_rangeFunc ?_
  intro fn _
  obtain ⟨rec, hrec⟩ : ∃ rec : LoopState → Option Code → Loop, rec = fun st pe => { state := st, pending := pe, fn, tmps := a.tmps, params := ps, assign, body, defers := W0.heap.size } := ⟨_, rfl⟩
  obtain ⟨W1, hW1⟩ : ∃ W1, (W0.alloc (.deferred (some []))).alloc (.loop (rec .ready none)) = W1 := ⟨_, rfl⟩
  have hL1 : W1.heap[W0.heap.size + 1]? = some (.loop (rec .ready none)) := by rw [← hW1]; exact heap_new' _ _ _ (by simp)
  have hD1 : W1.heap[W0.heap.size]? = some (.deferred (some [])) := by rw [← hW1]; exact heap_alloc (heap_new W0 _) _
  have hz1 : W1.heap.size = W0.heap.size + 2 := by rw [← hW1]; simp
  have hk1 : ∀ S, Keep S W0 W1 := fun S => by rw [← hW1]; exact ((Keep.refl S W0).alloc _).alloc _
  refine ⟨W0.heap.size + 1, [{ target := .collected W0.heap.size, args := #[] }], W1, { target := .fn (.func 153) #[.pointer (some ⟨bs, 0, none⟩)], args := #[.func (.yield (W0.heap.size + 1)) #[] #[]] }, W1, 153,
    #[.func (.yield (W0.heap.size + 1)) #[] #[], .pointer (some ⟨bs, 0, none⟩)], W1, ?_, ?_, fun _ _ => trivial, ?_, fun _ => by omega, ?_⟩
  · rw [← hW1, hrec]; exact run_enterLoop_outer _ _ _ _ _
  · simp only [resolve, hg]
    simp [go_sem]
  · have eg := enters_of Tryz.func153 (by kernel_rfl) rfl
    simp [invoke, go_sem, eg]
  · refine callsIn_wide.2 ?_
    obtain ⟨J, hJ⟩ : ∃ J : World → Prop, J = fun W => C W ∧ W.heap[W0.heap.size + 1]? = some (.loop (rec .ready none)) ∧ W.heap[W0.heap.size]? = some (.deferred (some [])) := ⟨_, rfl⟩
    obtain ⟨Jx, hJx⟩ : ∃ Jx : Lev → World → Prop, Jx = fun x W => Cx x W ∧ W.heap[W0.heap.size + 1]? = some (.loop (rec .done (some .ret))) ∧ W.heap[W0.heap.size]? = some (.deferred (some [])) := ⟨_, rfl⟩
    have fin : ∀ (jump : Option Code) (l : Nat) (W3 : World), l = W0.heap.size + 1 → W3.heap[l]? = some (.loop (rec .busy none)) →
        (Instr.endRound l jump).run Tryz.prog W3 = .ok (.bool jump.isNone) (W3.putObj l (.loop (rec (if jump.isNone then .ready else .done) jump))) := fun jump l W3 hl h3 => by
      have := run_endRound (P := Tryz.prog) jump h3
      rw [hrec] at this ⊢
      exact this
    have hcaller : BackCaller (W0.heap.size + 1) bs A c xs J Jx := by
      rw [hJ, hJx]
      refine ⟨fun W h => hbox W h.1, fun W h => hlev W h.1, ?_, ?_⟩
      · rintro W k x ⟨hc, hL, hD⟩ hx hxb
        have hy := run_yield (P := Tryz.prog) (args := #[.int .i64 (k : Nat), .agg x.cells]) hL (by rw [hrec]; simp [hps])
        rw [hrec] at hy
        refine ⟨fn, _, assign, body, hy, roundIn_of_wpIn trivial ?_⟩
        refine wpIn_mono (hmore (W0.heap.size + 1) W k x hc hx hxb (heap_lt hL) (by omega)) ?_
        intro e a1 w1 h
        cases e <;> first | exact h | skip
        obtain ⟨hk0, hbody⟩ := h
        have hL2 : w1.heap[W0.heap.size + 1]? = some (.loop (rec .ready none)) := (hk0.block _ (heap_lt hL) (fun h => h)).trans hL
        have hbr := run_beginRound (P := Tryz.prog) hL2 (by rw [hrec])
        refine ⟨_, hbr, ?_⟩
        have e1 : { rec .ready none with state := .busy } = rec .busy none := by rw [hrec]
        rw [e1]
        have hkl : Keep (· = W0.heap.size + 1) w1 (w1.putObj (W0.heap.size + 1) (.loop (rec .busy none))) := (Keep.refl (· = W0.heap.size + 1) w1).put (r := W0.heap.size + 1) (.inl rfl) _
        refine wpIn_mono (hbody _ hkl) ?_
        rintro e a3 W3 ⟨rfl, hk'⟩
        have hL3 : W3.heap[W0.heap.size + 1]? = some (.loop (rec .busy none)) := (hk'.block _ (by simp; exact heap_lt hL2) (fun h => h)).trans (heap_put hL2 _)
        have hD3 : W3.heap[W0.heap.size]? = some (.deferred (some [])) := by
          rw [hk'.block _ (by simp; have := hk0.size; have := heap_lt hD; omega) (fun h => h), heap_put_other (by omega), hk0.block _ (heap_lt hD) (fun h => h)]
          exact hD
        have hk3 : ∀ o, Keep (· = W0.heap.size + 1) W3 (W3.putObj (W0.heap.size + 1) o) := fun o => (Keep.refl (· = W0.heap.size + 1) W3).put (r := W0.heap.size + 1) (.inl rfl) _
        have hall : ∀ o, Keep (fun k => W0.heap.size ≤ k) W (W3.putObj (W0.heap.size + 1) o) := fun o =>
          (((hk0.mono (fun k hk => hk.elim)).trans (hkl.mono (fun k hk => by omega))).trans (hk'.mono (fun k hk => hk.elim))).trans ((hk3 o).mono (fun k hk => by omega))
        exact ⟨_, _, fin none _ W3 rfl hL3, rfl, hstay _ _ hc (hall _), heap_put hL3 _, (heap_put_other (by omega) _).trans hD3⟩
      · rintro W k x ⟨hc, hL, hD⟩ hx hxb
        have hy := run_yield (P := Tryz.prog) (args := #[.int .i64 (k : Nat), .agg x.cells]) hL (by rw [hrec]; simp [hps])
        rw [hrec] at hy
        refine ⟨fn, _, assign, body, hy, roundIn_of_wpIn trivial ?_⟩
        refine wpIn_mono (hstop (W0.heap.size + 1) W k x hc hx hxb (heap_lt hL) (by omega)) ?_
        intro e a1 w1 h
        cases e <;> first | exact h | skip
        obtain ⟨hk0, hbody⟩ := h
        have hL2 : w1.heap[W0.heap.size + 1]? = some (.loop (rec .ready none)) := (hk0.block _ (heap_lt hL) (fun h => h)).trans hL
        have hbr := run_beginRound (P := Tryz.prog) hL2 (by rw [hrec])
        refine ⟨_, hbr, ?_⟩
        have e1 : { rec .ready none with state := .busy } = rec .busy none := by rw [hrec]
        rw [e1]
        have hkl : Keep (· = W0.heap.size + 1) w1 (w1.putObj (W0.heap.size + 1) (.loop (rec .busy none))) := (Keep.refl (· = W0.heap.size + 1) w1).put (r := W0.heap.size + 1) (.inl rfl) _
        refine wpIn_mono (hbody _ hkl) ?_
        rintro e a3 W3 ⟨rfl, hcx, hk'⟩
        have hL3 : W3.heap[W0.heap.size + 1]? = some (.loop (rec .busy none)) := (hk'.block _ (by simp; exact heap_lt hL2) (by omega)).trans (heap_put hL2 _)
        have hD3 : W3.heap[W0.heap.size]? = some (.deferred (some [])) := by
          rw [hk'.block _ (by simp; have := hk0.size; have := heap_lt hD; omega) (by omega), heap_put_other (by omega), hk0.block _ (heap_lt hD) (fun h => h)]
          exact hD
        exact ⟨_, _, fin (some .ret) _ W3 rfl hL3, rfl, hxstay _ _ _ hcx ((Keep.refl _ _).put (.inl (by omega)) _), heap_put hL3 _, (heap_put_other (by omega) _).trans hD3⟩
    refine (back1_any (W0.heap.size + 1) bs A c xs J Jx hcaller W1 ?_ hlen).mono ?_
    · rw [hJ]
      exact ⟨hstay _ _ h0 (hk1 _), hL1, hD1⟩
    · rintro e W2 ⟨⟨v, rfl⟩, (⟨hr, hj⟩ | ⟨x, hr, hjx⟩)⟩
      · rw [hJ] at hj
        obtain ⟨hc, hL, hD⟩ := hj
        refine ⟨none, _, by have := run_endLoop (P := Tryz.prog) hL (by rw [hrec]; simp); rw [hrec] at this; exact this, hdone _ hr (hstay _ _ hc ((Keep.refl _ _).put (.inl (by omega)) _)) ((heap_put_other (by omega) _).trans hD)⟩
      · rw [hJx] at hjx
        obtain ⟨hcx, hL, hD⟩ := hjx
        refine ⟨some .ret, _, by have := run_endLoop (P := Tryz.prog) hL (by rw [hrec]; simp); rw [hrec] at this; exact this, ?_⟩
        refine wpIn_wide.2 ?_
        refine wp_ret ?_
        exact hret x _ hr (hxstay _ _ _ hcx ((Keep.refl _ _).put (.inl (by omega)) _)) ((heap_put_other (by omega) _).trans hD)
end Go.Proofs.YtfnhjdehlikbaaaGreatDoor.Lx
namespace Go.Proofs.YtfnhjdehlikbaaaGreatDoor.Lx
open Go.RowKit Go.Proofs.YtfnhjdehlikbaaaGreatDoorW.PrintWords
attribute [local go_sem] Oper.semAt_some
structure LastAt (w : World) (A : Option Addr) (c : Nat) (xs : List Lev) (W : World) : Prop where
  fn : W.heap[w.heap.size]? = some (.cells #[.func (.func 130) #[] #[]] 140)
  res : W.heap[w.heap.size + 1]? = some (.cells lev0.cells 171)
  ok : W.heap[w.heap.size + 1 + 1]? = some (.cells #[.bool false] 4)
  box : W.heap[w.heap.size + 1 + 1 + 1]? = some (.cells #[.slice A xs.length c] 132)
  below : Below w.heap.size w W
structure LastX (w : World) (x : Lev) (W : World) : Prop where
  res : W.heap[w.heap.size + 1]? = some (.cells x.cells 171)
  ok : W.heap[w.heap.size + 1 + 1]? = some (.cells #[.bool true] 4)
  below : Below w.heap.size w W
theorem LevAt.below {A : Option Addr} {xs : List Lev} {W W' : World} (h : LevAt A xs W) (hb : Below W.heap.size W W') : LevAt A xs W' := by
  intro k x hx
  obtain ⟨g, hA, h0, h1, h2⟩ := h k x hx
  have e : ∀ o v, W.cell? ⟨g, o, none⟩ = some v → W'.cell? ⟨g, o, none⟩ = some v := fun o v hv => (hb.cell (p := ⟨g, o, none⟩) (World.block_lt_of_cell? _ _ hv)).trans hv
  exact ⟨g, hA, e _ _ h0, e _ _ h1, e _ _ h2⟩
theorem load_lev (W : World) (g : Nat) (x : Lev) (h : W.heap[g]? = some (.cells x.cells 171)) : (loadVar 171 ⟨g, 0, none⟩).run Tryz.prog W = .ok (.agg x.cells) W := by
  have c0 : W.cell? ⟨g, 0, none⟩ = some (.bool x.block) := cell_of h 0
  have c1 : W.cell? ⟨g, 1, none⟩ = some (.int .i64 x.col) := cell_of h 1
  have c2 : W.cell? ⟨g, 2, none⟩ = some (.string x.text) := cell_of h 2
  have hu := Tryz.underlying171
  simp only [Lev.cells]
  go_simp
theorem load_bool (W : World) (g : Nat) (b : Bool) (h : W.heap[g]? = some (.cells #[.bool b] 4)) : (loadVar 4 ⟨g, 0, none⟩).run Tryz.prog W = .ok (.bool b) W := by
  have c0 : W.cell? ⟨g, 0, none⟩ = some (.bool b) := cell_of h 0
  go_simp
theorem results129 {tmps : Array Value} {W : World} {a d : Nat} {x : Lev} {b : Bool} (h4 : tmps.getD 4 undef = .pointer (some ⟨a, 0, none⟩)) (h5 : tmps.getD 5 undef = .pointer (some ⟨d, 0, none⟩))
    (c0 : W.heap[a]? = some (.cells x.cells 171)) (c1 : W.heap[d]? = some (.cells #[.bool b] 4)) :
    (results Tryz.f129 tmps).run Tryz.prog W = .ok (.tuple #[.agg x.cells, .bool b]) W := by
  have k0 := load_lev W a x c0
  have k1 := load_bool W d b c1
  have e4 : tmps[4]?.getD undef = .pointer (some ⟨a, 0, none⟩) := by simpa using h4
  have e5 : tmps[5]?.getD undef = .pointer (some ⟨d, 0, none⟩) := by simpa using h5
  simp [results, Tryz.results129, e4, e5, asAddr, k0, k1]
set_option maxRecDepth 100000 in
set_option maxHeartbeats 8000000 in
theorem last_any (xs : List Lev) (A : Option Addr) (c : Nat) (w : World) (hlev : LevAt A xs w) (hlen : xs.length ≤ 1000000000) :
    Calls Tryz.prog 129 #[.slice A xs.length c, .func (.func 130) #[] #[]] w fun e w' => e = .returned (.tuple #[.agg (lastF xs).cells, .bool (xs.reverse.find? (·.block)).isSome]) ∧ Below w.heap.size w w' := by
  have HIB := Aside0.mk isBlock_any
  obtain ⟨v, hv⟩ : ∃ v, lastF xs = v := ⟨_, rfl⟩
  obtain ⟨b, hb⟩ : ∃ b, (xs.reverse.find? (·.block)).isSome = b := ⟨_, rfl⟩
  rw [hv, hb]
  have HV := Aside0.mk hv
  have HBV := Aside0.mk hb
  clear hv hb
  refine (callsIn_wide (n := 3)).1 ?_
  refine callsIn_of_wp_marks Tryz.func129 rfl trivial ?_ rfl
  simp only [Tryz.ntmps129, List.size_toArray, List.length_cons, List.length_nil, Nat.reduceAdd, Nat.reduceSub, Array.replicate_succ, Array.replicate_zero, List.push_toArray, List.append_toArray, List.nil_append, List.cons_append]
  refine wpIn_wide.2 ?_
  go_wp2_with (go_at_call 145; (with_reducible refine (backward_any _ _ _ _).mono ?_); rintro e w1 ⟨rfl, rfl⟩)
  refine wp_range_back (w.heap.size + 1 + 1 + 1 + 1) (by simp) rfl rfl hlen (bs := w.heap.size + 1 + 1 + 1) (A := A) (c := c) (LastAt w A c xs) (LastX w) ?h0 (fun W h => h.box) (fun W h => hlev.below h.below) ?hstay ?hxstay ?hmore ?hstop ?hdone ?hret
  case h0 =>
    refine ⟨?_, ?_, ?_, ?_, ?_⟩
    · exact heap_alloc (heap_alloc (heap_alloc (heap_new w _) _) _) _
    · exact heap_alloc (heap_alloc (heap_new' _ _ _ (by simp)) _) _
    · exact heap_alloc (heap_new' _ _ _ (by simp)) _
    · exact heap_new' _ _ _ (by simp)
    · exact ((((Below.refl _ w).alloc (Nat.le_refl _) _).alloc (by simp) _).alloc (by simp; omega) _).alloc (by simp; omega) _
  case hstay =>
    rintro W W' h hk
    have e : ∀ k, k < w.heap.size + 4 → k < W.heap.size → W'.heap[k]? = W.heap[k]? := fun k h1 h2 => hk.block k h2 (by simp; omega)
    have := heap_lt h.box
    exact ⟨(e _ (by omega) (by omega)).trans h.fn, (e _ (by omega) (by omega)).trans h.res, (e _ (by omega) (by omega)).trans h.ok, (e _ (by omega) (by omega)).trans h.box, h.below.trans (hk.below h.below.size (fun i hi hs => by simp at hs; omega))⟩
  case hxstay =>
    rintro x W W' h hk
    have e : ∀ k, k < w.heap.size + 4 → k < W.heap.size → W'.heap[k]? = W.heap[k]? := fun k h1 h2 => hk.block k h2 (by simp; omega)
    have := heap_lt h.ok
    exact ⟨(e _ (by omega) (by omega)).trans h.res, (e _ (by omega) (by omega)).trans h.ok, h.below.trans (hk.below h.below.size (fun i hi hs => by simp at hs; omega))⟩
  case hmore =>
    rintro l W k ⟨xb, xc, xt⟩ h hx hxb hl hl0
    simp only at hxb
    subst hxb
    simp only [Lev.cells]
    have HL := Aside0.mk h; clear h
    gi_wp2
    refine ⟨(Keep.refl _ _).alloc _, fun w2 hk => ?_⟩
    have hsz := hk.size
    simp at hl0
    have e6 := (hk.block W.heap.size (by simp) (by omega)).trans (heap_new W _)
    have e0 := (hk.block w.heap.size (by have := heap_lt HL.out.fn; simp; omega) (by omega)).trans (heap_alloc HL.out.fn _)
    have c0 : w2.cell? ⟨w.heap.size, 0, none⟩ = some (.func (.func 130) #[] #[]) := cell_of e0 0
    have c1 : w2.cell? ⟨W.heap.size, 0, none⟩ = some (.bool false) := cell_of e6 0
    have c2 : w2.cell? ⟨W.heap.size, 1, none⟩ = some (.int .i64 xc) := cell_of e6 1
    have c3 : w2.cell? ⟨W.heap.size, 2, none⟩ = some (.string xt) := cell_of e6 2
    have HK := Aside0.mk hk; clear hk e6 e0 hsz
    have HI2 : Aside0 (∀ W, Calls Tryz.prog 130 #[.agg #[.bool false, .int .i64 xc, .string xt]] W fun e w' => e = .returned (.bool false) ∧ Below W.heap.size W w') := ⟨fun W => HIB.out ⟨false, xc, xt⟩ W⟩
    gi_wp2_with (refine ⟨trivial, rfl, ?_⟩; (with_reducible refine (CallsIn.inRound l (callsIn_wide.2 (HI2.out _))).mono ?_); rintro e w3 ⟨rfl, hb⟩; have HB := Aside0.mk hb; clear hb)
    exact Keep.of_below HB.out
  case hstop =>
    rintro l W k ⟨xb, xc, xt⟩ h hx hxb hl hl0
    simp only at hxb
    subst hxb
    simp only [Lev.cells]
    have HL := Aside0.mk h; clear h
    gi_wp2
    refine ⟨(Keep.refl _ _).alloc _, fun w2 hk => ?_⟩
    have hsz := hk.size
    simp at hl0 hsz
    have hlo := heap_lt HL.out.box
    have e6 := (hk.block W.heap.size (by simp) (by omega)).trans (heap_new W _)
    have e0 := (hk.block w.heap.size (by simp; omega) (by omega)).trans (heap_alloc HL.out.fn _)
    have e1 := (hk.block (w.heap.size + 1) (by simp; omega) (by omega)).trans (heap_alloc HL.out.res _)
    have e2 := (hk.block (w.heap.size + 1 + 1) (by simp; omega) (by omega)).trans (heap_alloc HL.out.ok _)
    have hbel : Below w.heap.size w w2 := (HL.out.below.alloc HL.out.below.size _).trans (hk.below (by simp; omega) (fun i hi hs => by omega))
    have HBL := Aside0.mk hbel; clear hbel
    have c0 : w2.cell? ⟨w.heap.size, 0, none⟩ = some (.func (.func 130) #[] #[]) := cell_of e0 0
    have c1 : w2.cell? ⟨W.heap.size, 0, none⟩ = some (.bool true) := cell_of e6 0
    have c2 : w2.cell? ⟨W.heap.size, 1, none⟩ = some (.int .i64 xc) := cell_of e6 1
    have c3 : w2.cell? ⟨W.heap.size, 2, none⟩ = some (.string xt) := cell_of e6 2
    have E1 := Aside0.mk e1
    have E2 := Aside0.mk e2
    have E6 := Aside0.mk e6
    clear hk e6 e0 e1 e2
    have HI2 : Aside0 (∀ W, Calls Tryz.prog 130 #[.agg #[.bool true, .int .i64 xc, .string xt]] W fun e w' => e = .returned (.bool true) ∧ Below W.heap.size W w') := ⟨fun W => HIB.out ⟨true, xc, xt⟩ W⟩
    gi_wp2_with (refine ⟨trivial, rfl, ?_⟩; (with_reducible refine (CallsIn.inRound l (callsIn_wide.2 (HI2.out _))).mono ?_); rintro e w3 ⟨rfl, hb⟩; have HB := Aside0.mk hb; have f1 := (hb.block _ (heap_lt E1.out)).trans E1.out; have f2 := (hb.block _ (heap_lt E2.out)).trans E2.out; have f6 := (hb.block _ (heap_lt E6.out)).trans E6.out; have d1 : w3.cell? ⟨W.heap.size, 0, none⟩ = some (.bool true) := cell_of f6 0; have d2 : w3.cell? ⟨W.heap.size, 1, none⟩ = some (.int .i64 xc) := cell_of f6 1; have d3 : w3.cell? ⟨W.heap.size, 2, none⟩ = some (.string xt) := cell_of f6 2; have r1 : w3.cell? ⟨w.heap.size + 1, 0, none⟩ = some (.bool false) := cell_of f1 0; have r2 : w3.cell? ⟨w.heap.size + 1, 1, none⟩ = some (.int .i64 0) := cell_of f1 1; have r3 : w3.cell? ⟨w.heap.size + 1, 2, none⟩ = some (.string ⟨#[]⟩) := cell_of f1 2; have r4 : w3.cell? ⟨w.heap.size + 1 + 1, 0, none⟩ = some (.bool false) := cell_of f2 0; have rf := fun i => free_of f1 i; have rg := fun i => free_of f2 i; have F1 := Aside0.mk f1; have F2 := Aside0.mk f2; clear hb f1 f2 f6)
    refine ⟨⟨?_, ?_, ?_⟩, ?_⟩
    · exact (heap_set_other (by simp) _).trans (heap_set (heap_set (heap_set F1.out 0 _) 1 _) 2 _)
    · exact heap_set ((heap_set_other (by simp) _).trans ((heap_set_other (by simp) _).trans ((heap_set_other (by simp) _).trans F2.out))) 0 _
    · exact ((((HBL.out.trans (HB.out.mono HBL.out.size)).setCell (by simp) _).setCell (by simp) _).setCell (by simp) _).setCell (by simp; omega) _
    · exact ((((Keep.of_below HB.out).setCell (.inl (by simp)) _).setCell (.inl (by simp)) _).setCell (.inl (by simp)) _).setCell (.inl (by simp)) _
  case hdone =>
    rintro W hr h hD
    have hl : lastF xs = lev0 := by unfold lastF; rw [hr]; rfl
    have hv : v = lev0 := HV.out.symm.trans hl
    have hb : b = false := by rw [← HBV.out, hr]; rfl
    have hh := Aside0.mk (And.intro hv hb)
    clear hv hb
    have HL := Aside0.mk h; clear h
    have HD := Aside0.mk hD; clear hD
    have q1 : (W.alloc (.cells #[.bool false, .int .i64 0, .string ⟨#[]⟩] 171)).heap[w.heap.size + 1]? = some (.cells #[.bool false, .int .i64 0, .string ⟨#[]⟩] 171) := heap_alloc HL.out.res _
    have q2 : (W.alloc (.cells #[.bool false, .int .i64 0, .string ⟨#[]⟩] 171)).heap[w.heap.size + 1 + 1]? = some (.cells #[.bool false] 4) := heap_alloc HL.out.ok _
    have r1 := cell_of q1 0
    have r2 := cell_of q1 1
    have r3 := cell_of q1 2
    have r4 := cell_of q2 0
    replace r1 : (W.alloc (.cells #[.bool false, .int .i64 0, .string ⟨#[]⟩] 171)).cell? ⟨w.heap.size + 1, 0, none⟩ = some (.bool false) := r1
    replace r2 : (W.alloc (.cells #[.bool false, .int .i64 0, .string ⟨#[]⟩] 171)).cell? ⟨w.heap.size + 1, 1, none⟩ = some (.int .i64 0) := r2
    replace r3 : (W.alloc (.cells #[.bool false, .int .i64 0, .string ⟨#[]⟩] 171)).cell? ⟨w.heap.size + 1, 2, none⟩ = some (.string ⟨#[]⟩) := r3
    replace r4 : (W.alloc (.cells #[.bool false, .int .i64 0, .string ⟨#[]⟩] 171)).cell? ⟨w.heap.size + 1 + 1, 0, none⟩ = some (.bool false) := r4
    have rf := fun i => free_of q1 i
    have rg := fun i => free_of q2 i
    have hlo := heap_lt HL.out.box
    have Q1 := Aside0.mk q1
    have Q2 := Aside0.mk q2
    clear hr hl q1 q2
    go_wp2
    refine ⟨by simp, .inl ⟨_, _, rfl, run_takeDeferred ((heap_set_other (by simp; omega) _).trans ((heap_set_other (by simp; omega) _).trans ((heap_set_other (by simp; omega) _).trans ((heap_set_other (by simp; omega) _).trans (heap_alloc HD.out _))))), ?_⟩⟩
    have g1 := (heap_put_other (r := w.heap.size + 1 + 1 + 1 + 1) (by omega) (.deferred none)).trans ((heap_set_other (a := ⟨w.heap.size + 1 + 1, 0, none⟩) (by simp) (.bool false)).trans (heap_set (heap_set (heap_set Q1.out 0 (.bool false)) 1 (.int .i64 0)) 2 (.string ⟨#[]⟩)))
    have g2 := (heap_put_other (r := w.heap.size + 1 + 1 + 1 + 1) (by omega) (.deferred none)).trans (heap_set ((heap_set_other (a := ⟨w.heap.size + 1, 2, none⟩) (by simp) (.string ⟨#[]⟩)).trans ((heap_set_other (a := ⟨w.heap.size + 1, 1, none⟩) (by simp) (.int .i64 0)).trans ((heap_set_other (a := ⟨w.heap.size + 1, 0, none⟩) (by simp) (.bool false)).trans Q2.out))) 0 (.bool false))
    refine ⟨_, results129 (x := lev0) rfl rfl g1 g2, ⟨by rw [hh.out.1, hh.out.2], ?_⟩⟩
    exact below_put (((((HL.out.below.alloc HL.out.below.size _).setCell (by simp) _).setCell (by simp) _).setCell (by simp) _).setCell (by simp; omega) _) (by omega) _
  case hret =>
    rintro x W hr h hD
    have hl : lastF xs = x := by unfold lastF; rw [hr]; rfl
    have hv : v = x := HV.out.symm.trans hl
    have hb : b = true := by rw [← HBV.out, hr]; rfl
    refine ⟨by simp, .inl ⟨_, _, rfl, run_takeDeferred hD, ?_⟩⟩
    have g1 := (heap_put_other (w := W) (r := w.heap.size + 1 + 1 + 1 + 1) (by omega) (.deferred none)).trans h.res
    have g2 := (heap_put_other (w := W) (r := w.heap.size + 1 + 1 + 1 + 1) (by omega) (.deferred none)).trans h.ok
    refine ⟨_, results129 rfl rfl g1 g2, ⟨by rw [hv, hb], ?_⟩⟩
    exact below_put h.below (by omega) _
end Go.Proofs.YtfnhjdehlikbaaaGreatDoor.Lx
namespace Go.Proofs.YtfnhjdehlikbaaaGreatDoor.Lx
open Go.RowKit Go.Proofs.YtfnhjdehlikbaaaGreatDoorW.PrintWords
set_option maxRecDepth 100000 in
set_option maxHeartbeats 4000000 in
theorem closing_any (x o : ByteArray) (w : World) :
    Calls Tryz.prog 90 #[.string x, .string o] w fun e w' => e = .returned (.bool (closesF x o)) ∧ w = w' := by
  obtain ⟨r, hr⟩ : ∃ r, closesF x o = r := ⟨_, rfl⟩
  rw [hr]
  unfold closesF sq at hr
  cases h1 : (x.toList == [41]) with
  | true =>
    rw [if_pos h1] at hr
    subst hr
    go_enter Tryz.func90, Tryz.ntmps90
    go_wp2
    go_ret
    exact ⟨rfl, rfl⟩
  | false =>
    rw [if_neg (by rw [h1]; simp)] at hr
    cases h2 : (x.toList == [125]) with
    | true =>
      rw [if_pos h2] at hr
      subst hr
      go_enter Tryz.func90, Tryz.ntmps90
      go_wp2
      go_ret
      exact ⟨rfl, rfl⟩
    | false =>
      rw [if_neg (by rw [h2]; simp)] at hr
      cases h3 : (x.toList == [105, 110]) with
      | true =>
        rw [if_pos h3] at hr
        subst hr
        go_enter Tryz.func90, Tryz.ntmps90
        go_wp2
        go_ret
        exact ⟨rfl, rfl⟩
      | false =>
        rw [if_neg (by rw [h3]; simp)] at hr
        cases h4 : (x.toList == [119, 105, 116, 104]) with
        | false =>
          rw [if_neg (by rw [h4]; simp)] at hr
          subst hr
          go_enter Tryz.func90, Tryz.ntmps90
          go_wp2
          go_ret
          exact ⟨rfl, rfl⟩
        | true =>
          rw [if_pos h4] at hr
          cases k1 : (o.toList == [109, 97, 116, 99, 104]) with
          | true =>
            rw [k1, Bool.true_or] at hr
            subst hr
            go_enter Tryz.func90, Tryz.ntmps90
            go_wp2
            go_ret
            exact ⟨rfl, rfl⟩
          | false =>
            rw [k1, Bool.false_or] at hr
            cases k2 : (o.toList == [104, 97, 110, 100, 108, 101]) with
            | true =>
              rw [k2, Bool.true_or] at hr
              subst hr
              go_enter Tryz.func90, Tryz.ntmps90
              go_wp2
              go_ret
              exact ⟨rfl, rfl⟩
            | false =>
              rw [k2, Bool.false_or] at hr
              subst hr
              go_enter Tryz.func90, Tryz.ntmps90
              go_wp2
              go_ret
              exact ⟨rfl, rfl⟩
end Go.Proofs.YtfnhjdehlikbaaaGreatDoor.Lx
namespace Go.Proofs.YtfnhjdehlikbaaaGreatDoor.Lx
open Go.RowKit Go.Proofs.YtfnhjdehlikbaaaGreatDoorW.PrintWords
def clo : Value := .func (.func 90) #[] #[]
structure OneAt (B y : Nat) (own0 : Nat → Prop) (w : World) (t nx : Tok) (st : List Lev) (out : List Tok) (own : Nat → Prop) (W : World) : Prop where
  lay : LaySt B y clo st out own W
  sub : ∀ k, own k → own0 k ∨ w.heap.size ≤ k
  far1 : ¬ own w.heap.size
  far2 : ¬ own (w.heap.size + 1)
  boxt : W.heap[w.heap.size]? = some (.cells t.cells 54)
  boxn : W.heap[w.heap.size + 1]? = some (.cells nx.cells 54)
  keep : Keep own0 w W
theorem LaySt.lt {B y : Nat} {f : Value} {st : List Lev} {out : List Tok} {own : Nat → Prop} {W : World} (h : LaySt B y f st out own W) : ∀ k, own k → k < W.heap.size := by
  obtain ⟨vs, vo, rfl, h⟩ := h
  exact h.lt
section
variable {B y : Nat} {own0 : Nat → Prop} {w : World} {t nx : Tok} {st : List Lev} {out : List Tok} {own : Nat → Prop} {W W' : World}
theorem OneAt.start (h : LaySt B y clo st out own w) (t nx : Tok) : OneAt B y own w t nx st out own ((w.alloc (.cells t.cells 54)).alloc (.cells nx.cells 54)) :=
  ⟨h.keep (((Keep.refl (fun _ => False) w).alloc _).alloc _) (fun _ h => h.elim), fun _ h => .inl h, fun ho => by have := h.lt _ ho; omega, fun ho => by have := h.lt _ ho; omega, heap_alloc (heap_new w _) _, heap_new' _ _ _ (by simp), ((Keep.refl _ w).alloc _).alloc _⟩
theorem OneAt.size (h : OneAt B y own0 w t nx st out own W) : w.heap.size + 2 ≤ W.heap.size := by have := heap_lt h.boxn; omega
theorem OneAt.below (h : OneAt B y own0 w t nx st out own W) (hb : Below W.heap.size W W') : OneAt B y own0 w t nx st out own W' :=
  ⟨h.lay.keep (Keep.of_below (S := fun _ => False) hb) (fun _ h => h.elim), h.sub, h.far1, h.far2, (hb.block _ (heap_lt h.boxt)).trans h.boxt, (hb.block _ (heap_lt h.boxn)).trans h.boxn, h.keep.trans (Keep.of_below hb)⟩
theorem OneAt.to (h : OneAt B y own0 w t nx st out own W) {st' : List Lev} {out' : List Tok} (ht : LayTo B y clo st' out' own W W') : ∃ own', OneAt B y own0 w t nx st' out' own' W' := by
  obtain ⟨own', h1, h2, h3⟩ := ht
  have hz := h.size
  refine ⟨own', h1, fun k hk => ?_, fun ho => ?_, fun ho => ?_, (h2.block _ (by omega) h.far1).trans h.boxt, (h2.block _ (by omega) h.far2).trans h.boxn, h.keep.then h2 (fun k hk ho => (h.sub k ho).resolve_right (by omega))⟩
  · rcases h3 k hk with h4 | h4
    · exact h.sub k h4
    · exact .inr (by omega)
  · rcases h3 _ ho with h4 | h4
    · exact h.far1 h4
    · omega
  · rcases h3 _ ho with h4 | h4
    · exact h.far2 h4
    · omega
theorem OneAt.end (h : OneAt B y own0 w t nx st out own W) : LayTo B y clo st out own0 w W := ⟨own, h.lay, h.keep, h.sub⟩
theorem OneAt.cells (h : OneAt B y own0 w t nx st out own W) :
    W.cell? ⟨w.heap.size, 0, none⟩ = some (.int .i64 t.kind) ∧ W.cell? ⟨w.heap.size, 1, none⟩ = some (.int .i64 t.num) ∧ W.cell? ⟨w.heap.size, 2, none⟩ = some (.string t.text) ∧ W.cell? ⟨w.heap.size, 3, none⟩ = some (.int .i64 t.at_) ∧ W.cell? ⟨w.heap.size, 4, none⟩ = some (.int .i64 t.line) ∧ W.cell? ⟨w.heap.size, 5, none⟩ = some (.int .i64 t.col) :=
  ⟨cell_of h.boxt 0, cell_of h.boxt 1, cell_of h.boxt 2, cell_of h.boxt 3, cell_of h.boxt 4, cell_of h.boxt 5⟩
theorem OneAt.cellsn (h : OneAt B y own0 w t nx st out own W) :
    W.cell? ⟨w.heap.size + 1, 0, none⟩ = some (.int .i64 nx.kind) ∧ W.cell? ⟨w.heap.size + 1, 1, none⟩ = some (.int .i64 nx.num) ∧ W.cell? ⟨w.heap.size + 1, 2, none⟩ = some (.string nx.text) ∧ W.cell? ⟨w.heap.size + 1, 3, none⟩ = some (.int .i64 nx.at_) ∧ W.cell? ⟨w.heap.size + 1, 4, none⟩ = some (.int .i64 nx.line) ∧ W.cell? ⟨w.heap.size + 1, 5, none⟩ = some (.int .i64 nx.col) :=
  ⟨cell_of h.boxn 0, cell_of h.boxn 1, cell_of h.boxn 2, cell_of h.boxn 3, cell_of h.boxn 4, cell_of h.boxn 5⟩
theorem LaySt.view {f : Value} (h : LaySt B y f st out own W) : ∃ A c n, W.cell? ⟨y, 0, none⟩ = some (.slice A n c) ∧ W.cell? ⟨y, 2, none⟩ = some f ∧ n = st.length ∧ LevAt A st W := by
  obtain ⟨vs, vo, rfl, h⟩ := h
  obtain ⟨A, c, rfl⟩ : ∃ A c, vs = .slice A st.length c := by
    rcases h.stack.2 with ⟨h1, h2⟩ | ⟨g, cap, cur, h1, _⟩
    · exact ⟨none, 0, by rw [h2]; exact h1⟩
    · exact ⟨_, _, h1⟩
  refine ⟨A, c, st.length, cell_of h.cell 0, cell_of h.cell 2, rfl, fun k x hk => ?_⟩
  obtain ⟨hlt, hx⟩ := List.getElem?_eq_some_iff.1 hk
  obtain ⟨g, rfl⟩ : ∃ g, A = some ⟨g, 0, none⟩ := by
    rcases h.stack.2 with ⟨_, h1⟩ | ⟨g, cap, cur, h1, _⟩
    · omega
    · injection h1 with h1; exact ⟨g, h1⟩
  have hcs := h.stack.cells rfl
  have e : ∀ j, (⟨g, 0, none⟩ : Addr).add j = ⟨g, j, none⟩ := fun j => by unfold Addr.add; split <;> simp_all
  have hfl : ∀ j, j < 3 → (flatL st)[k * 3 + j]? = x.cells.toList[j]? := by
    intro j hj
    have hsp : st = st.take k ++ x :: st.drop (k + 1) := by rw [← hx, ← List.drop_eq_getElem_cons hlt, List.take_append_drop]
    have hfl : flatL st = flatL (st.take k) ++ (x.cells.toList ++ flatL (st.drop (k + 1))) := by
      conv => lhs; rw [hsp]
      simp [flatL]
    have hlk : (flatL (st.take k)).length = k * 3 := by rw [flatL_len, List.length_take, Nat.min_eq_left (by omega)]
    rw [hfl, List.getElem?_append_right (by omega), hlk, Nat.add_sub_cancel_left, List.getElem?_append_left (by simp [Lev.cells]; omega)]
  refine ⟨g, rfl, ?_, ?_, ?_⟩
  · have := hcs (k * 3) (.bool x.block) (by have := hfl 0 (by omega); simpa [Lev.cells] using this)
    rwa [e] at this
  · have := hcs (k * 3 + 1) (.int .i64 x.col) (by have := hfl 1 (by omega); simpa [Lev.cells] using this)
    rwa [e] at this
  · have := hcs (k * 3 + 2) (.string x.text) (by have := hfl 2 (by omega); simpa [Lev.cells] using this)
    rwa [e] at this
end
def OneRes (B y : Nat) (own : Nat → Prop) (w : World) (r : (List Lev × List Tok) × Bool × Int) (e : Ending) (w' : World) : Prop :=
  e = .returned (.tuple #[.bool r.2.1, .int .i64 r.2.2]) ∧ ∃ st' out', (r.2.2 = 0 → st' = r.1.1 ∧ out' = r.1.2) ∧ LayTo B y clo st' out' own w w'
def oneF3 (t nx : Tok) (more : Bool) (st : List Lev) (out : List Tok) : (List Lev × List Tok) × Bool × Int :=
  if 60 < ((oneC t nx more st out).1.1.length : Int) then ((oneC t nx more st out).1, false, 11) else ((oneC t nx more st out).1, (oneC t nx more st out).2, 0)
def oneF2 (t nx : Tok) (more : Bool) (st : List Lev) (out : List Tok) : (List Lev × List Tok) × Bool × Int :=
  if badB t st out = true then ((st, out), false, 7) else oneF3 t nx more (oneB t st out).1 (oneB t st out).2
theorem oneF_badA {t nx : Tok} {begins more : Bool} {st : List Lev} {out : List Tok} (h : badA t begins st out = true) : oneF t nx begins more st out = ((st, out), false, 15) := by
  unfold oneF; rw [if_pos h]
theorem oneF_okA {t nx : Tok} {begins more : Bool} {st : List Lev} {out : List Tok} (h : badA t begins st out = false) : oneF t nx begins more st out = oneF2 t nx more (oneA t begins st out).1 (oneA t begins st out).2 := by
  unfold oneF; rw [if_neg (by rw [h]; simp)]; rfl
end Go.Proofs.YtfnhjdehlikbaaaGreatDoor.Lx
