import Derived.Test.YtfnhjdehlikbaaaGreatDoorM2
set_option linter.unusedVariables false
set_option linter.unusedSimpArgs false
namespace Go.Proofs.YtfnhjdehlikbaaaGreatDoor.Lx
open Go.RowKit Go.Proofs.YtfnhjdehlikbaaaGreatDoorW.PrintWords
attribute [local go_sem] field171 field171'
def oneFin (c : (List Lev × List Tok) × Bool) : (List Lev × List Tok) × Bool × Int := if 60 < (c.1.1.length : Int) then (c.1, false, 11) else (c.1, c.2, 0)
theorem oneF3_fin (t nx : Tok) (more : Bool) (st : List Lev) (out : List Tok) : oneF3 t nx more st out = oneFin (oneC t nx more st out) := rfl
theorem oneFin_big {c : (List Lev × List Tok) × Bool} (h : 60 < (c.1.1.length : Int)) : oneFin c = (c.1, false, 11) := if_pos h
theorem oneFin_small {c : (List Lev × List Tok) × Bool} (h : ¬ 60 < (c.1.1.length : Int)) : oneFin c = (c.1, c.2, 0) := if_neg h
theorem oneC_open {t nx : Tok} {more : Bool} {st : List Lev} {out : List Tok} (h : opening t = true) : oneC t nx more st out = ((st ++ [⟨false, 0, t.text⟩], out ++ [t]), false) := if_pos h
theorem oneC_none {t nx : Tok} {more : Bool} {st : List Lev} {out : List Tok} (h : opening t = false) (hw : withs t = false) : oneC t nx more st out = ((st, out ++ [t]), false) := by
  unfold oneC; rw [if_neg (by rw [h]; simp), if_neg (by rw [hw]; simp)]
theorem oneC_with {t nx : Tok} {more : Bool} {st : List Lev} {out : List Tok} (h : opening t = false) (hw : withs t = true) (ho : opens nx more st = true) : oneC t nx more st out = ((st ++ [⟨true, nx.col, ⟨#[]⟩⟩], out ++ [t] ++ [markF 5 nx]), true) := by
  unfold oneC; rw [if_neg (by rw [h]; simp), if_pos hw, if_pos ho]
theorem oneC_shut {t nx : Tok} {more : Bool} {st : List Lev} {out : List Tok} (h : opening t = false) (hw : withs t = true) (ho : opens nx more st = false) : oneC t nx more st out = ((st, out ++ [t] ++ [markF 5 nx] ++ [markF 7 nx]), false) := by
  unfold oneC; rw [if_neg (by rw [h]; simp), if_pos hw, if_neg (by rw [ho]; simp)]
structure ClAt (B y : Nat) (own0 : Nat → Prop) (w : World) (t nx : Tok) (st : List Lev) (out : List Tok) (own : Nat → Prop) (A : Option Addr) (n c : Nat) (W : World) : Prop where
  one : OneAt B y own0 w t nx st out own W
  c0 : W.cell? ⟨y, 0, none⟩ = some (.slice A n c)
  c2 : W.cell? ⟨y, 2, none⟩ = some (.func (.func 90) #[] #[])
section
variable {B y : Nat} {own0 : Nat → Prop} {w : World} {t nx : Tok} {st : List Lev} {out : List Tok} {own : Nat → Prop} {A : Option Addr} {n c : Nat} {W W' : World}
theorem ClAt.below (h : ClAt B y own0 w t nx st out own A n c W) (hb : Below W.heap.size W W') : ClAt B y own0 w t nx st out own A n c W' :=
  ⟨h.one.below hb, (hb.cell (p := ⟨y, 0, none⟩) (World.block_lt_of_cell? _ _ h.c0)).trans h.c0, (hb.cell (p := ⟨y, 2, none⟩) (World.block_lt_of_cell? _ _ h.c2)).trans h.c2⟩
theorem ClAt.cells (h : ClAt B y own0 w t nx st out own A n c W) : W.cell? ⟨y, 0, none⟩ = some (.slice A n c) ∧ W.cell? ⟨y, 2, none⟩ = some (.func (.func 90) #[] #[]) ∧ W.cell? ⟨w.heap.size, 2, none⟩ = some (.string t.text) :=
  ⟨h.c0, h.c2, cell_of h.one.boxt 2⟩
end
set_option maxRecDepth 100000 in
set_option maxHeartbeats 16000000 in
theorem one_any (B y : Nat) (t nx : Tok) (begins more : Bool) (st : List Lev) (out : List Tok) (own : Nat → Prop) (w : World) (h : LaySt B y clo st out own w) (hlen : out.length + st.length ≤ 900000000) (hB : B ≤ w.heap.size) :
    Calls Tryz.prog 93 #[.pointer (some ⟨y, 0, none⟩), .agg t.cells, .agg nx.cells, .bool begins, .bool more] w (OneRes B y own w (oneF t nx begins more st out)) := by
  obtain ⟨r, hr⟩ : ∃ r, oneF t nx begins more st out = r := ⟨_, rfl⟩
  rw [hr]
  have HR := Aside0.mk hr; clear hr
  have HS : Aside0 (OneAt B y own w t nx st out own ((w.alloc (.cells t.cells 54)).alloc (.cells nx.cells 54))) := ⟨OneAt.start h t nx⟩
  have HLT : Aside0 (∀ k, own k → k < w.heap.size) := ⟨h.lt⟩
  clear h
  obtain ⟨tk, tn, tx, ta, tl, tc⟩ := t
  obtain ⟨nk, nn, nt, na, nl, nc⟩ := nx
  simp only [Tok.cells] at *
  go_enter Tryz.func93, Tryz.ntmps93
  go_upto_if 17 with (fail)
  go_cut [] (fun wc => Aside0 (badA ⟨tk, tn, tx, ta, tl, tc⟩ begins st out = false ∧ ∃ own', OneAt B y own w ⟨tk, tn, tx, ta, tl, tc⟩ ⟨nk, nn, nt, na, nl, nc⟩ (oneA ⟨tk, tn, tx, ta, tl, tc⟩ begins st out).1 (oneA ⟨tk, tn, tx, ta, tl, tc⟩ begins st out).2 own' wc))
  case first =>
    cases begins with
    | false =>
      go_wp2
      go_meet
      case rel => exact ⟨⟨rfl, own, HS.out⟩⟩
    | true =>
      have hlt := HLT.out
      have hsh := shut_any B y clo (deeper ⟨tk, tn, tx, ta, tl, tc⟩) ⟨tk, tn, tx, ta, tl, tc⟩ 126 #[.pointer (some ⟨w.heap.size, 0, none⟩)] (enters_of Tryz.func126 (by kernel_rfl) rfl)
        (fun own' W => W.heap[w.heap.size]? = some (.cells #[.int .i64 tk, .int .i64 tn, .string tx, .int .i64 ta, .int .i64 tl, .int .i64 tc] 54) ∧ ¬ own' w.heap.size)
        (fun o o' W W' hi hk hs => ⟨(hk.block _ (heap_lt hi.1) hi.2).trans hi.1, fun ho => by have := heap_lt hi.1; rcases hs _ ho with h1 | h1; exact hi.2 h1; omega⟩)
        (fun o W v hi => deeper_any w.heap.size ⟨tk, tn, tx, ta, tl, tc⟩ v W hi.1) st out own _ HS.out.lay ⟨HS.out.boxt, HS.out.far1⟩ (by omega) (Nat.le_trans hB (by have := HS.out.size; omega))
      obtain ⟨S, hS⟩ : ∃ S, shutF (deeper ⟨tk, tn, tx, ta, tl, tc⟩) ⟨tk, tn, tx, ta, tl, tc⟩ st out = S := ⟨_, rfl⟩
      have hsl := shutF_len (deeper ⟨tk, tn, tx, ta, tl, tc⟩) ⟨tk, tn, tx, ta, tl, tc⟩ st out
      have hbad : badA ⟨tk, tn, tx, ta, tl, tc⟩ true st out = S.1.isEmpty := by simp [badA, hS]
      have hone : oneA ⟨tk, tn, tx, ta, tl, tc⟩ true st out = (S.1, if ((topF S.1).block && (topF S.1).col == tc) = true then S.2 ++ [markF 6 ⟨tk, tn, tx, ta, tl, tc⟩] else S.2) := by simp [oneA, hS]
      rw [hS] at hsh hsl
      obtain ⟨s1, o1⟩ := S
      simp only [Tok.cells] at hsh hsl hone hbad
      have HSH := Aside0.mk hsh
      have HBAD := Aside0.mk hbad
      have HONE := Aside0.mk hone
      clear hsh hbad hone hS hlt
      have HM : Aside0 (∀ W, Calls Tryz.prog 124 #[.int .i64 6, .agg #[.int .i64 tk, .int .i64 tn, .string tx, .int .i64 ta, .int .i64 tl, .int .i64 tc]] W fun e w' => e = .returned (.agg #[.int .i64 6, .int .i64 0, .string ⟨#[]⟩, .int .i64 ta, .int .i64 tl, .int .i64 tc]) ∧ Below W.heap.size W w') := ⟨fun W => mark_any 6 ⟨tk, tn, tx, ta, tl, tc⟩ W⟩
      go_upto_region 3 with (go_at_call 94; (with_reducible refine HSH.out.mono ?_); rintro e w1 ⟨rfl, hto⟩; obtain ⟨own1, h1⟩ := HS.out.to hto; have H1 := Aside0.mk h1; clear hto h1)
      obtain ⟨A, c, n, v0, v2, hn, hlev⟩ := H1.out.lay.view
      obtain ⟨t0, t1, t2, t3, t4, t5⟩ := H1.out.cells
      simp only at t0 t1 t2 t3 t4 t5
      clear hlev v2
      have HN := Aside0.mk hn
      by_cases hz : n = 0
      · have hbd : badA ⟨tk, tn, tx, ta, tl, tc⟩ true st out = true := by rw [HBAD.out]; exact List.isEmpty_iff.2 (List.length_eq_zero_iff.1 (hn.symm.trans hz))
        have hrr := HR.out
        rw [oneF_badA hbd] at hrr
        subst hrr
        have HE := Aside0.mk H1.out.end
        subst hz
        clear hn hbd
        go_wp2
        go_ret2
        exact ⟨rfl, s1, o1, fun h => (by cases h), HE.out⟩
      · have hbd : badA ⟨tk, tn, tx, ta, tl, tc⟩ true st out = false := by
          rw [HBAD.out]
          cases hx : s1 with
          | nil => rw [hx] at hn; exact absurd hn hz
          | cons a l => rfl
        have HBD := Aside0.mk hbd
        clear hn hbd
        have htop := top_any B y clo s1 o1 own1 w1 H1.out.lay
        obtain ⟨V, hV⟩ : ∃ V, topF s1 = V := ⟨_, rfl⟩
        rw [hV] at htop
        have HONE2 := HONE.out
        rw [hV] at HONE2
        obtain ⟨vb, vc, vt⟩ := V
        simp only [Lev.cells] at htop HONE2
        have HONE3 := Aside0.mk HONE2; clear HONE2
        have HT := Aside0.mk htop; clear htop hV
        have hz0 : (n : Int) ≠ 0 := by omega
        have htl := HLT.out
        cases hvb : vb with
        | false =>
          subst hvb
          have HO : Aside0 (oneA ⟨tk, tn, tx, ta, tl, tc⟩ true st out = (s1, o1)) := ⟨HONE3.out⟩
          clear htl
          go_wp2_with (go_at_call 127; (with_reducible refine HT.out.mono ?_); rintro e w2 ⟨rfl, hb2⟩; have H2 := Aside0.mk (H1.out.below hb2); have q0 : (w2.alloc (.cells #[.bool false, .int .i64 vc, .string vt] 171)).cell? ⟨w.heap.size, 0, none⟩ = some (.int .i64 tk) := cell_of (heap_alloc H2.out.boxt _) 0; have q1 : (w2.alloc (.cells #[.bool false, .int .i64 vc, .string vt] 171)).cell? ⟨w.heap.size, 1, none⟩ = some (.int .i64 tn) := cell_of (heap_alloc H2.out.boxt _) 1; have q2 : (w2.alloc (.cells #[.bool false, .int .i64 vc, .string vt] 171)).cell? ⟨w.heap.size, 2, none⟩ = some (.string tx) := cell_of (heap_alloc H2.out.boxt _) 2; have q3 : (w2.alloc (.cells #[.bool false, .int .i64 vc, .string vt] 171)).cell? ⟨w.heap.size, 3, none⟩ = some (.int .i64 ta) := cell_of (heap_alloc H2.out.boxt _) 3; have q4 : (w2.alloc (.cells #[.bool false, .int .i64 vc, .string vt] 171)).cell? ⟨w.heap.size, 4, none⟩ = some (.int .i64 tl) := cell_of (heap_alloc H2.out.boxt _) 4; have q5 : (w2.alloc (.cells #[.bool false, .int .i64 vc, .string vt] 171)).cell? ⟨w.heap.size, 5, none⟩ = some (.int .i64 tc) := cell_of (heap_alloc H2.out.boxt _) 5; have H3 := Aside0.mk (H2.out.below ((Below.refl _ w2).alloc (Nat.le_refl _) (.cells #[.bool false, .int .i64 vc, .string vt] 171))); clear hb2)
          go_meet
          case rel => exact ⟨⟨HBD.out, own1, by rw [HO.out]; exact H3.out⟩⟩
        | true =>
          subst hvb
          clear htl
          cases hvc : (vc == tc) with
          | false =>
            have HO : Aside0 (oneA ⟨tk, tn, tx, ta, tl, tc⟩ true st out = (s1, o1)) := ⟨by rw [HONE3.out, hvc]; rfl⟩
            go_wp2_with (go_at_call 127; (with_reducible refine HT.out.mono ?_); rintro e w2 ⟨rfl, hb2⟩; have H2 := Aside0.mk (H1.out.below hb2); have q0 : (w2.alloc (.cells #[.bool true, .int .i64 vc, .string vt] 171)).cell? ⟨w.heap.size, 0, none⟩ = some (.int .i64 tk) := cell_of (heap_alloc H2.out.boxt _) 0; have q1 : (w2.alloc (.cells #[.bool true, .int .i64 vc, .string vt] 171)).cell? ⟨w.heap.size, 1, none⟩ = some (.int .i64 tn) := cell_of (heap_alloc H2.out.boxt _) 1; have q2 : (w2.alloc (.cells #[.bool true, .int .i64 vc, .string vt] 171)).cell? ⟨w.heap.size, 2, none⟩ = some (.string tx) := cell_of (heap_alloc H2.out.boxt _) 2; have q3 : (w2.alloc (.cells #[.bool true, .int .i64 vc, .string vt] 171)).cell? ⟨w.heap.size, 3, none⟩ = some (.int .i64 ta) := cell_of (heap_alloc H2.out.boxt _) 3; have q4 : (w2.alloc (.cells #[.bool true, .int .i64 vc, .string vt] 171)).cell? ⟨w.heap.size, 4, none⟩ = some (.int .i64 tl) := cell_of (heap_alloc H2.out.boxt _) 4; have q5 : (w2.alloc (.cells #[.bool true, .int .i64 vc, .string vt] 171)).cell? ⟨w.heap.size, 5, none⟩ = some (.int .i64 tc) := cell_of (heap_alloc H2.out.boxt _) 5; have H3 := Aside0.mk (H2.out.below ((Below.refl _ w2).alloc (Nat.le_refl _) (.cells #[.bool true, .int .i64 vc, .string vt] 171))); clear hb2)
            go_meet
            case rel => exact ⟨⟨HBD.out, own1, by rw [HO.out]; exact H3.out⟩⟩
          | true =>
            have HO : Aside0 (oneA ⟨tk, tn, tx, ta, tl, tc⟩ true st out = (s1, o1 ++ [markF 6 ⟨tk, tn, tx, ta, tl, tc⟩])) := ⟨by rw [HONE3.out, hvc]; rfl⟩
            go_wp2_with (first | (go_at_call 127; (with_reducible refine HT.out.mono ?_); rintro e w2 ⟨rfl, hb2⟩; have H2 := Aside0.mk (H1.out.below hb2); have q0 : (w2.alloc (.cells #[.bool true, .int .i64 vc, .string vt] 171)).cell? ⟨w.heap.size, 0, none⟩ = some (.int .i64 tk) := cell_of (heap_alloc H2.out.boxt _) 0; have q1 : (w2.alloc (.cells #[.bool true, .int .i64 vc, .string vt] 171)).cell? ⟨w.heap.size, 1, none⟩ = some (.int .i64 tn) := cell_of (heap_alloc H2.out.boxt _) 1; have q2 : (w2.alloc (.cells #[.bool true, .int .i64 vc, .string vt] 171)).cell? ⟨w.heap.size, 2, none⟩ = some (.string tx) := cell_of (heap_alloc H2.out.boxt _) 2; have q3 : (w2.alloc (.cells #[.bool true, .int .i64 vc, .string vt] 171)).cell? ⟨w.heap.size, 3, none⟩ = some (.int .i64 ta) := cell_of (heap_alloc H2.out.boxt _) 3; have q4 : (w2.alloc (.cells #[.bool true, .int .i64 vc, .string vt] 171)).cell? ⟨w.heap.size, 4, none⟩ = some (.int .i64 tl) := cell_of (heap_alloc H2.out.boxt _) 4; have q5 : (w2.alloc (.cells #[.bool true, .int .i64 vc, .string vt] 171)).cell? ⟨w.heap.size, 5, none⟩ = some (.int .i64 tc) := cell_of (heap_alloc H2.out.boxt _) 5; have H3 := Aside0.mk (H2.out.below ((Below.refl _ w2).alloc (Nat.le_refl _) (.cells #[.bool true, .int .i64 vc, .string vt] 171))); clear hb2) | (go_at_call 124; (with_reducible refine (HM.out _).mono ?_); rintro e w3 ⟨rfl, hb3⟩; have H4 := Aside0.mk ((H3.out.below hb3).below ((Below.refl _ w3).alloc (Nat.le_refl _) (.cells #[.int .i64 6, .int .i64 0, .string ⟨#[]⟩, .int .i64 ta, .int .i64 tl, .int .i64 tc] 54))); clear hb3) | (go_at_call 123; refine (put_any B y clo s1 o1 own1 _ H4.out.lay ⟨6, 0, ⟨#[]⟩, ta, tl, tc⟩ ⟨w3.heap.size, 0, none⟩ 1 (cells_new w3 #[.int .i64 6, .int .i64 0, .string ⟨#[]⟩, .int .i64 ta, .int .i64 tl, .int .i64 tc] 54) (by omega) (Nat.le_trans hB (by have := H4.out.size; omega))).mono ?_; rintro e w4 ⟨rfl, hto⟩; obtain ⟨own4, h4⟩ := H4.out.to hto; have H5 := Aside0.mk h4; clear hto h4))
            go_meet
            case rel => exact ⟨⟨HBD.out, own4, by rw [HO.out]; exact H5.out⟩⟩
  case rest =>
    obtain ⟨hbadA, own1, hA⟩ := hcut.out
    have hl1 := oneA_len ⟨tk, tn, tx, ta, tl, tc⟩ begins st out
    have hr2 := HR.out
    rw [oneF_okA hbadA] at hr2
    clear HR hcut HS hbadA
    generalize (oneA ⟨tk, tn, tx, ta, tl, tc⟩ begins st out).1 = st1 at hA hl1 hr2
    generalize (oneA ⟨tk, tn, tx, ta, tl, tc⟩ begins st out).2 = out1 at hA hl1 hr2
    have HR := Aside0.mk hr2
    have H1 := Aside0.mk hA
    clear hr2 hA
    go_upto_region 8 with (fail)
    go_cut [13] (fun t13 wd => t13 = .bool (Tok.sign ⟨tk, tn, tx, ta, tl, tc⟩) ∧ Aside0 (OneAt B y own w ⟨tk, tn, tx, ta, tl, tc⟩ ⟨nk, nn, nt, na, nl, nc⟩ st1 out1 own1 wd))
    case first =>
      obtain ⟨t0, t1, t2, t3, t4, t5⟩ := H1.out.cells
      simp only at t0 t1 t2 t3 t4 t5
      cases h3 : (tk == 3) with
      | true =>
        have HSG : Aside0 (Tok.sign ⟨tk, tn, tx, ta, tl, tc⟩ = true) := ⟨by unfold Tok.sign; simp only; rw [h3]; rfl⟩
        go_wp2
        go_meet
        case rel => exact ⟨by rw [HSG.out], H1⟩
      | false =>
        cases h4 : (tk == 4) with
        | true =>
          have HSG : Aside0 (Tok.sign ⟨tk, tn, tx, ta, tl, tc⟩ = true) := ⟨by unfold Tok.sign; simp only; rw [h3, h4]; rfl⟩
          go_wp2
          go_meet
          case rel => exact ⟨by rw [HSG.out], H1⟩
        | false =>
          have HSG : Aside0 (Tok.sign ⟨tk, tn, tx, ta, tl, tc⟩ = false) := ⟨by unfold Tok.sign; simp only; rw [h3, h4]; rfl⟩
          go_wp2
          go_meet
          case rel => exact ⟨by rw [HSG.out], H1⟩
    case rest =>
      obtain ⟨rfl, H2⟩ := hcut
      clear H1
      have hclo : closing ⟨tk, tn, tx, ta, tl, tc⟩ = (Tok.sign ⟨tk, tn, tx, ta, tl, tc⟩ && among closers tx) := rfl
      have hope : opening ⟨tk, tn, tx, ta, tl, tc⟩ = (Tok.sign ⟨tk, tn, tx, ta, tl, tc⟩ && among openers tx) := rfl
      have hwit : withs ⟨tk, tn, tx, ta, tl, tc⟩ = (Tok.sign ⟨tk, tn, tx, ta, tl, tc⟩ && sq tx [119, 105, 116, 104]) := rfl
      generalize Tok.sign ⟨tk, tn, tx, ta, tl, tc⟩ = sg at hclo hope hwit ⊢
      have HCL := Aside0.mk hclo
      have HOP := Aside0.mk hope
      have HWI := Aside0.mk hwit
      clear hclo hope hwit
      go_upto_region 9 with (fail)
      go_cut [58] (fun t58 we => t58 = .bool (closing ⟨tk, tn, tx, ta, tl, tc⟩) ∧ Aside0 (OneAt B y own w ⟨tk, tn, tx, ta, tl, tc⟩ ⟨nk, nn, nt, na, nl, nc⟩ st1 out1 own1 we))
      case first =>
        cases sg with
        | false =>
          have HC : Aside0 (closing ⟨tk, tn, tx, ta, tl, tc⟩ = false) := ⟨HCL.out⟩
          go_wp2
          go_meet
          case rel => exact ⟨by rw [HC.out], H2⟩
        | true =>
          have HC : Aside0 (closing ⟨tk, tn, tx, ta, tl, tc⟩ = among closers tx) := ⟨HCL.out⟩
          have q2 : (wc.alloc (.cells #[.string ⟨#[41]⟩, .string ⟨#[125]⟩, .string ⟨#[105, 110]⟩, .string ⟨#[119, 105, 116, 104]⟩] 9)).cell? ⟨w.heap.size, 2, none⟩ = some (.string tx) := cell_of (heap_alloc H2.out.boxt _) 2
          have HCO : Aside0 (Calls Tryz.prog 32 #[.slice (some ⟨wc.heap.size, 0, none⟩) 4 4, .string tx] (wc.alloc (.cells #[.string ⟨#[41]⟩, .string ⟨#[125]⟩, .string ⟨#[105, 110]⟩, .string ⟨#[119, 105, 116, 104]⟩] 9)) fun e w' => e = .returned (.bool (among closers tx)) ∧ w' = wc.alloc (.cells #[.string ⟨#[41]⟩, .string ⟨#[125]⟩, .string ⟨#[105, 110]⟩, .string ⟨#[119, 105, 116, 104]⟩] 9)) :=
            ⟨contains_any closers tx wc.heap.size 4 _ (by decide) (fun k x hk => by rw [cell_of (heap_new wc _) k]; show (closers.map Value.string).toArray[k]? = _; simp [hk])⟩
          have H3 := Aside0.mk (H2.out.below ((Below.refl _ wc).alloc (Nat.le_refl _) (.cells #[.string ⟨#[41]⟩, .string ⟨#[125]⟩, .string ⟨#[105, 110]⟩, .string ⟨#[119, 105, 116, 104]⟩] 9)))
          go_wp2_with (go_at_call 32; (with_reducible refine HCO.out.mono ?_); rintro e w2 ⟨rfl, rfl⟩)
          go_meet
          case rel => exact ⟨by rw [HC.out], H3⟩
      case rest =>
        obtain ⟨rfl, H3⟩ := hcut
        clear H2
        have hHC : closing ⟨tk, tn, tx, ta, tl, tc⟩ = closing ⟨tk, tn, tx, ta, tl, tc⟩ := rfl
        generalize hcc : closing ⟨tk, tn, tx, ta, tl, tc⟩ = cc
        have HCC := Aside0.mk hcc
        clear hcc hHC
        go_upto_if 58 with (fail)
        go_cut [] (fun wf => Aside0 (badB ⟨tk, tn, tx, ta, tl, tc⟩ st1 out1 = false ∧ ∃ own2, OneAt B y own w ⟨tk, tn, tx, ta, tl, tc⟩ ⟨nk, nn, nt, na, nl, nc⟩ (oneB ⟨tk, tn, tx, ta, tl, tc⟩ st1 out1).1 (oneB ⟨tk, tn, tx, ta, tl, tc⟩ st1 out1).2 own2 wf))
        case first =>
          cases cc with
          | false =>
            have HOB : Aside0 (badB ⟨tk, tn, tx, ta, tl, tc⟩ st1 out1 = false ∧ oneB ⟨tk, tn, tx, ta, tl, tc⟩ st1 out1 = (st1, out1)) := ⟨by unfold badB oneB; rw [HCC.out]; exact ⟨rfl, rfl⟩⟩
            go_wp2
            go_meet
            case rel => exact ⟨⟨HOB.out.1, own1, by rw [HOB.out.2]; exact H3.out⟩⟩
          | true =>
            have hsh := shut_any B y clo anyL ⟨tk, tn, tx, ta, tl, tc⟩ 95 #[] (enters_of Tryz.func95 (by kernel_rfl) rfl) (fun _ _ => True) (fun _ _ _ _ _ _ _ => trivial) (fun _ W v _ => anything_any v W) st1 out1 own1 _ H3.out.lay trivial (by omega) (Nat.le_trans hB (by have := H3.out.size; omega))
            obtain ⟨S, hS⟩ : ∃ S, shutF anyL ⟨tk, tn, tx, ta, tl, tc⟩ st1 out1 = S := ⟨_, rfl⟩
            have hsl := shutF_len anyL ⟨tk, tn, tx, ta, tl, tc⟩ st1 out1
            have hbad : badB ⟨tk, tn, tx, ta, tl, tc⟩ st1 out1 = (S.1.isEmpty || !closesF tx (topF S.1).text) := by unfold badB; rw [HCC.out, hS]; rfl
            have hone : oneB ⟨tk, tn, tx, ta, tl, tc⟩ st1 out1 = (S.1.dropLast, S.2) := by unfold oneB; rw [HCC.out, hS]; rfl
            rw [hS] at hsh hsl
            obtain ⟨s2, o2⟩ := S
            simp only [Tok.cells] at hsh hsl hone hbad
            have HSH := Aside0.mk hsh
            have HBAD := Aside0.mk hbad
            have HONE := Aside0.mk hone
            clear hsh hbad hone hS
            obtain ⟨t0, t1, t2, t3, t4, t5⟩ := H3.out.cells
            simp only at t0 t1 t2 t3 t4 t5
            go_upto_region 11 with (go_at_call 94; (with_reducible refine HSH.out.mono ?_); rintro e w1 ⟨rfl, hto⟩; obtain ⟨own2, h1⟩ := H3.out.to hto; have H4 := Aside0.mk h1; clear hto h1)
            obtain ⟨A, c, n, v0, v2, hn, hlev⟩ := H4.out.lay.view
            clear hlev t0 t1 t2 t3 t4 t5
            have HCA := Aside0.mk (show ClAt B y own w ⟨tk, tn, tx, ta, tl, tc⟩ ⟨nk, nn, nt, na, nl, nc⟩ s2 o2 own2 A n c w1 from ⟨H4.out, v0, v2⟩)
            obtain ⟨_, _, t2⟩ := HCA.out.cells
            simp only at t2
            simp only [clo] at v2
            by_cases hz : n = 0
            · subst hz
              have hbd : badB ⟨tk, tn, tx, ta, tl, tc⟩ st1 out1 = true := by rw [HBAD.out, List.isEmpty_iff.2 (List.length_eq_zero_iff.1 hn.symm)]; rfl
              have hrr := HR.out
              unfold oneF2 at hrr
              rw [if_pos hbd] at hrr
              subst hrr
              clear hn hbd
              go_quiet (fail)
              go_wp2
              go_ret2
              exact ⟨rfl, s2, o2, fun h => (by cases h), (H4.out.below (show Below w1.heap.size w1 (w1.drewN nq) from ⟨rfl, rfl, rfl, Nat.le_refl _, fun _ _ => rfl⟩)).end⟩
            · obtain ⟨s0, V, rfl⟩ : ∃ s0 V, s2 = s0 ++ [V] := by
                rcases List.eq_nil_or_concat s2 with rfl | ⟨s0, V, rfl⟩
                · exact absurd hn hz
                · exact ⟨s0, V, List.concat_eq_append⟩
              have htf : topF (s0 ++ [V]) = V := by simp [topF]
              have hdl : (s0 ++ [V]).dropLast = s0 := by simp
              have hie : (s0 ++ [V]).isEmpty = false := by simp
              have hbd : badB ⟨tk, tn, tx, ta, tl, tc⟩ st1 out1 = !closesF tx V.text := by rw [HBAD.out, hie, htf]; rfl
              have hob : oneB ⟨tk, tn, tx, ta, tl, tc⟩ st1 out1 = (s0, o2) := by rw [HONE.out, hdl]
              have HBD := Aside0.mk hbd
              have HOB := Aside0.mk hob
              have hTOP := fun W (h : ClAt B y own w ⟨tk, tn, tx, ta, tl, tc⟩ ⟨nk, nn, nt, na, nl, nc⟩ (s0 ++ [V]) o2 own2 A n c W) => top_any B y clo (s0 ++ [V]) o2 own2 W h.one.lay
              rw [htf] at hTOP
              have HPOP : Aside0 (∀ W, ClAt B y own w ⟨tk, tn, tx, ta, tl, tc⟩ ⟨nk, nn, nt, na, nl, nc⟩ (s0 ++ [V]) o2 own2 A n c W → Calls Tryz.prog 128 #[.pointer (some ⟨y, 0, none⟩)] W fun e w' => e = .returned (.tuple #[]) ∧ LayTo B y clo s0 o2 own2 W w') := ⟨fun W h => pop_any B y clo s0 V o2 own2 W h.one.lay (by simp at hsl; omega) (Nat.le_trans hB (by have := h.one.size; omega))⟩
              have hz0 : ((n : Int) == 0) = false := by simp; omega
              have HZ := Aside0.mk hz
              clear hn hbd hob htf hdl hie hz HONE HBAD HSH
              obtain ⟨vb, vc, vt⟩ := V
              simp only [Lev.cells] at hTOP HBD
              have HTOP := Aside0.mk hTOP
              clear hTOP
              have HC1 := Aside0.mk (HCA.out.below ((Below.refl _ w1).drew))
              cases hcf : closesF tx vt with
              | false =>
                have HCLO : Aside0 (∀ W, Calls Tryz.prog 90 #[.string tx, .string vt] W fun e w' => e = .returned (.bool false) ∧ W = w') := ⟨fun W => hcf ▸ closing_any tx vt W⟩
                have hrr := HR.out
                unfold oneF2 at hrr
                rw [if_pos (by rw [HBD.out, hcf]; rfl)] at hrr
                subst hrr
                clear hcf
                go_region_held3 (fun W => W.cell? ⟨y, 0, none⟩ = some (.slice A n c) ∧ W.cell? ⟨y, 2, none⟩ = some (.func (.func 90) #[] #[]) ∧ W.cell? ⟨w.heap.size, 2, none⟩ = some (.string tx) ∧ Aside0 (ClAt B y own w ⟨tk, tn, tx, ta, tl, tc⟩ ⟨nk, nn, nt, na, nl, nc⟩ (s0 ++ [⟨vb, vc, vt⟩]) o2 own2 A n c W)) (go_keep) (first | (go_at_call 127; refine (HTOP.out _ (Aside0.out (by assumption))).mono ?_; rintro e w3 ⟨rfl, hb⟩; have hA3 : Aside0 (ClAt B y own w ⟨tk, tn, tx, ta, tl, tc⟩ ⟨nk, nn, nt, na, nl, nc⟩ (s0 ++ [⟨vb, vc, vt⟩]) o2 own2 A n c w3) := ⟨ClAt.below (Aside0.out (by assumption)) hb⟩; obtain ⟨k0, k2, k3⟩ := hA3.out.cells) | ((with_reducible refine (HCLO.out _).mono ?_); rintro e w4 ⟨rfl, rfl⟩))
                all_goals go_wp2
                all_goals go_ret2
                all_goals exact ⟨rfl, _, o2, fun h => (by cases h), (Aside0.out (by assumption) : ClAt B y own w ⟨tk, tn, tx, ta, tl, tc⟩ ⟨nk, nn, nt, na, nl, nc⟩ (s0 ++ [⟨vb, vc, vt⟩]) o2 own2 A n c _).one.end⟩
              | true =>
                have HCLO : Aside0 (∀ W, Calls Tryz.prog 90 #[.string tx, .string vt] W fun e w' => e = .returned (.bool true) ∧ W = w') := ⟨fun W => hcf ▸ closing_any tx vt W⟩
                have HB3 : Aside0 (badB ⟨tk, tn, tx, ta, tl, tc⟩ st1 out1 = false) := ⟨by rw [HBD.out, hcf]; rfl⟩
                clear hcf
                go_region_held3 (fun W => W.cell? ⟨y, 0, none⟩ = some (.slice A n c) ∧ W.cell? ⟨y, 2, none⟩ = some (.func (.func 90) #[] #[]) ∧ W.cell? ⟨w.heap.size, 2, none⟩ = some (.string tx) ∧ Aside0 (ClAt B y own w ⟨tk, tn, tx, ta, tl, tc⟩ ⟨nk, nn, nt, na, nl, nc⟩ (s0 ++ [⟨vb, vc, vt⟩]) o2 own2 A n c W)) (go_keep) (first | (go_at_call 127; refine (HTOP.out _ (Aside0.out (by assumption))).mono ?_; rintro e w3 ⟨rfl, hb⟩; have hA3 : Aside0 (ClAt B y own w ⟨tk, tn, tx, ta, tl, tc⟩ ⟨nk, nn, nt, na, nl, nc⟩ (s0 ++ [⟨vb, vc, vt⟩]) o2 own2 A n c w3) := ⟨ClAt.below (Aside0.out (by assumption)) hb⟩; obtain ⟨k0, k2, k3⟩ := hA3.out.cells) | ((with_reducible refine (HCLO.out _).mono ?_); rintro e w4 ⟨rfl, rfl⟩))
                all_goals go_wp2_with (go_at_call 128; (refine (HPOP.out _ (Aside0.out (by assumption))).mono ?_); rintro e w5 ⟨rfl, hto⟩; obtain ⟨own5, h5⟩ := (Aside0.out (by assumption) : ClAt B y own w ⟨tk, tn, tx, ta, tl, tc⟩ ⟨nk, nn, nt, na, nl, nc⟩ (s0 ++ [⟨vb, vc, vt⟩]) o2 own2 A n c _).one.to hto; have H5 := Aside0.mk h5; clear hto h5)
                all_goals go_meet
                all_goals exact ⟨⟨HB3.out, own5, by rw [HOB.out]; exact H5.out⟩⟩
        case rest =>
          obtain ⟨hbadB, own2, hA⟩ := hcut.out
          have hl2 := oneB_len ⟨tk, tn, tx, ta, tl, tc⟩ st1 out1
          have hr2 := HR.out
          unfold oneF2 at hr2
          rw [if_neg (by rw [hbadB]; simp)] at hr2
          clear HR hcut H3 hbadB HCC HCL
          generalize (oneB ⟨tk, tn, tx, ta, tl, tc⟩ st1 out1).1 = st2 at hA hl2 hr2
          generalize (oneB ⟨tk, tn, tx, ta, tl, tc⟩ st1 out1).2 = out2 at hA hl2 hr2
          have HR := Aside0.mk hr2
          have H4 := Aside0.mk hA
          clear hr2 hA
          obtain ⟨t0, t1, t2, t3, t4, t5⟩ := H4.out.cells
          simp only at t0 t1 t2 t3 t4 t5
          have H5 := Aside0.mk (H4.out.below ((Below.refl _ wc).alloc (Nat.le_refl _) (.cells #[.int .i64 tk, .int .i64 tn, .string tx, .int .i64 ta, .int .i64 tl, .int .i64 tc] 54)))
          go_upto_region 16 with (go_at_call 123; refine (put_any B y clo st2 out2 own2 _ H5.out.lay ⟨tk, tn, tx, ta, tl, tc⟩ ⟨wc.heap.size, 0, none⟩ 1 (cells_new wc #[.int .i64 tk, .int .i64 tn, .string tx, .int .i64 ta, .int .i64 tl, .int .i64 tc] 54) (by omega) (Nat.le_trans hB (by have := H5.out.size; omega))).mono ?_; rintro e w1 ⟨rfl, hto⟩; obtain ⟨own3, h6⟩ := H5.out.to hto; have H6 := Aside0.mk h6; clear hto h6)
          clear t0 t1 t2 t3 t4 t5 H4 H5
          obtain ⟨out3, ho3⟩ : ∃ o, out2 ++ [⟨tk, tn, tx, ta, tl, tc⟩] = o := ⟨_, rfl⟩
          have hol : out3.length = out2.length + 1 := by rw [← ho3]; simp
          rw [ho3] at H6
          have hr3 := HR.out
          rw [oneF3_fin] at hr3
          have HR3 := Aside0.mk hr3
          have HO3 := Aside0.mk ho3
          have hol2 : out3.length + st2.length ≤ out.length + st.length + 2 := by omega
          clear hr3 HR ho3 hol
          go_cut [87] (fun t87 wg => t87 = .bool (opening ⟨tk, tn, tx, ta, tl, tc⟩) ∧ Aside0 (OneAt B y own w ⟨tk, tn, tx, ta, tl, tc⟩ ⟨nk, nn, nt, na, nl, nc⟩ st2 out3 own3 wg))
          case first =>
            cases sg with
            | false =>
              have HC : Aside0 (opening ⟨tk, tn, tx, ta, tl, tc⟩ = false) := ⟨HOP.out⟩
              go_wp2
              go_meet
              case rel => exact ⟨by rw [HC.out], H6⟩
            | true =>
              have HC : Aside0 (opening ⟨tk, tn, tx, ta, tl, tc⟩ = among openers tx) := ⟨HOP.out⟩
              have q2 : (w1.alloc (.cells #[.string ⟨#[40]⟩, .string ⟨#[123]⟩, .string ⟨#[108, 101, 116]⟩, .string ⟨#[109, 97, 116, 99, 104]⟩, .string ⟨#[104, 97, 110, 100, 108, 101]⟩, .string ⟨#[97, 98, 105, 108, 105, 116, 121]⟩] 9)).cell? ⟨w.heap.size, 2, none⟩ = some (.string tx) := cell_of (heap_alloc H6.out.boxt _) 2
              have HCO : Aside0 (Calls Tryz.prog 32 #[.slice (some ⟨w1.heap.size, 0, none⟩) 6 6, .string tx] (w1.alloc (.cells #[.string ⟨#[40]⟩, .string ⟨#[123]⟩, .string ⟨#[108, 101, 116]⟩, .string ⟨#[109, 97, 116, 99, 104]⟩, .string ⟨#[104, 97, 110, 100, 108, 101]⟩, .string ⟨#[97, 98, 105, 108, 105, 116, 121]⟩] 9)) fun e w' => e = .returned (.bool (among openers tx)) ∧ w' = w1.alloc (.cells #[.string ⟨#[40]⟩, .string ⟨#[123]⟩, .string ⟨#[108, 101, 116]⟩, .string ⟨#[109, 97, 116, 99, 104]⟩, .string ⟨#[104, 97, 110, 100, 108, 101]⟩, .string ⟨#[97, 98, 105, 108, 105, 116, 121]⟩] 9)) :=
                ⟨contains_any openers tx w1.heap.size 6 _ (by decide) (fun k x hk => by rw [cell_of (heap_new w1 _) k]; show (openers.map Value.string).toArray[k]? = _; simp [hk])⟩
              have H7 := Aside0.mk (H6.out.below ((Below.refl _ w1).alloc (Nat.le_refl _) (.cells #[.string ⟨#[40]⟩, .string ⟨#[123]⟩, .string ⟨#[108, 101, 116]⟩, .string ⟨#[109, 97, 116, 99, 104]⟩, .string ⟨#[104, 97, 110, 100, 108, 101]⟩, .string ⟨#[97, 98, 105, 108, 105, 116, 121]⟩] 9)))
              go_wp2_with (go_at_call 32; (with_reducible refine HCO.out.mono ?_); rintro e w2 ⟨rfl, rfl⟩)
              go_meet
              case rel => exact ⟨by rw [HC.out], H7⟩
          case rest =>
            obtain ⟨rfl, H7⟩ := hcut
            clear H6 HOP
            generalize hcc : opening ⟨tk, tn, tx, ta, tl, tc⟩ = op
            have HCC := Aside0.mk hcc
            clear hcc
            cases op with
            | true =>
              have hr4 := HR3.out
              rw [oneC_open HCC.out, HO3.out] at hr4
              simp only at hr4
              have HR4 := Aside0.mk hr4
              clear hr4 HR3 HWI HCC HO3
              obtain ⟨i0, hi, hz0, hz1, hz2⟩ := info_parts info171
              have HI := Aside0.mk hi; clear hi
              have HZ0 := Aside0.mk hz0; clear hz0
              have HZ1 := Aside0.mk hz1; clear hz1
              have HZ2 := Aside0.mk hz2; clear hz2
              obtain ⟨_, _, t2, _, _, _⟩ := H7.out.cells
              simp only at t2
              have hlay := H7.out.lay
              obtain ⟨vs, vo, hown, h2⟩ := hlay
              have hbase := h2.base
              have hy := heap_lt h2.cell
              obtain ⟨A, c, rfl⟩ : ∃ A c, vs = .slice A st2.length c := by
                rcases h2.stack.2 with ⟨h1, h2⟩ | ⟨g, cap, cur, h1, _⟩
                · exact ⟨none, 0, by rw [h2]; exact h1⟩
                · exact ⟨_, _, h1⟩
              have c0 : wc.cell? ⟨y, 0, none⟩ = some (.slice A st2.length c) := cell_of h2.cell 0
              have f0 := free_of h2.cell 0
              have hB2 : B ≤ wc.heap.size := Nat.le_trans hB (by have := H7.out.size; omega)
              have H2 := Aside0.mk h2
              have HOWN := Aside0.mk hown
              clear h2 hown
              go_upto_region 17 with (fail)
              go_region_law ((refine step_append_lies _ (by rfl) _ _ 132 (by rfl) B 171 i0 _ 3 32 Tryz.underlying132 HI.out HZ0.out HZ1.out HZ2.out rfl (by decide) (.slice A st2.length c) st2.length (flatL st2) (by rfl) (H2.out.stack.alloc _) ⟨wc.heap.size, 0, none⟩ 1 1 [.bool false, .int .i64 0, .string tx] (by rfl) rfl (cells_new wc #[.bool false, .int .i64 0, .string tx] 171) (by simp [Value.oneCell']) (by decide) (by unfold maxLen; omega) (by omega) (by simp; omega) (wc.heap.size + 1) (by simp) ?_; intro g cap w3 hown hgrow hat hlt3; have hb5 := (hgrow.block y (by simp; omega) (fun h => by have := own_base H2.out.stack _ h.symm; omega)).trans (heap_alloc H2.out.cell _); have d5 := cell_of hb5 0; have e5 := free_of hb5 0; have HB5 := Aside0.mk hb5; clear hb5; have HO := Aside0.mk hown; have HG := Aside0.mk hgrow; have HA := Aside0.mk hat; clear hown hgrow hat))
              all_goals
                have hto : LayTo B y clo (st2 ++ [⟨false, 0, tx⟩]) out3 own3 wc (w3.setCell ⟨y, 0, none⟩ (.slice (some ⟨g, 0, none⟩) (st2.length + 1) cap)) := by
                  rw [HOWN.out]
                  refine H2.out.swap ((World.grownBy_alloc wc _ _).trans (grown_undrew HG.out)) ?_ ?_
                  · rw [flatL_snoc, List.length_append]
                    exact HO.out
                  · intro k hk
                    simp [Value.ownBlock] at hk
                    rcases HA.out with h1 | h1
                    · exact .inl (by rw [h1, hk])
                    · exact .inr (by omega)
                obtain ⟨own4, h8⟩ := H7.out.to hto
                have H8 := Aside0.mk h8
                have HR5 := HR4
                clear hto h8
                by_cases hbig : 60 < (st2.length : Int) + 1
                · have hr5 := HR5.out
                  rw [oneFin_big (by simp only [List.length_append, List.length_cons, List.length_nil]; omega)] at hr5
                  subst hr5
                  go_wp2
                  go_ret2
                  exact ⟨rfl, _, _, fun h => (by cases h), H8.out.end⟩
                · have hr5 := HR5.out
                  rw [oneFin_small (by simp only [List.length_append, List.length_cons, List.length_nil]; omega)] at hr5
                  subst hr5
                  go_wp2
                  go_ret2
                  exact ⟨rfl, _, _, fun _ => ⟨rfl, rfl⟩, H8.out.end⟩
            | false =>
              generalize hww : withs ⟨tk, tn, tx, ta, tl, tc⟩ = wi at HWI
              have HWW := Aside0.mk hww
              clear hww
              cases wi with
              | false =>
                have hr4 := HR3.out
                rw [oneC_none HCC.out HWW.out, HO3.out] at hr4
                have HR5 := Aside0.mk hr4
                obtain ⟨_, _, t2, _, _, _⟩ := H7.out.cells
                simp only at t2
                obtain ⟨A, c, n, v0, v2, hn, _⟩ := H7.out.lay.view
                have HN := Aside0.mk hn
                clear hr4 HR3 HO3 hn v2
                cases sg with
                | false =>
                  by_cases hbig : 60 < (n : Int)
                  · have hr5 := HR5.out
                    rw [oneFin_big (by simp only; rw [← HN.out]; exact hbig)] at hr5
                    subst hr5
                    go_wp2
                    go_ret2
                    exact ⟨rfl, _, _, fun h => (by cases h), H7.out.end⟩
                  · have hr5 := HR5.out
                    rw [oneFin_small (by simp only; rw [← HN.out]; exact hbig)] at hr5
                    subst hr5
                    go_wp2
                    go_ret2
                    exact ⟨rfl, _, _, fun _ => ⟨rfl, rfl⟩, H7.out.end⟩
                | true =>
                  have hsq : (tx.toList == [119, 105, 116, 104]) = false := by
                    have := HWI.out
                    unfold sq at this
                    rw [Bool.true_and] at this
                    exact this.symm
                  by_cases hbig : 60 < (n : Int)
                  · have hr5 := HR5.out
                    rw [oneFin_big (by simp only; rw [← HN.out]; exact hbig)] at hr5
                    subst hr5
                    go_wp2
                    go_ret2
                    exact ⟨rfl, _, _, fun h => (by cases h), H7.out.end⟩
                  · have hr5 := HR5.out
                    rw [oneFin_small (by simp only; rw [← HN.out]; exact hbig)] at hr5
                    subst hr5
                    go_wp2
                    go_ret2
                    exact ⟨rfl, _, _, fun _ => ⟨rfl, rfl⟩, H7.out.end⟩
              | true =>
                have hsg : sg = true := by
                  have := HWI.out
                  cases sg with
                  | true => rfl
                  | false => rw [Bool.false_and] at this; cases this
                subst hsg
                have hsq : (tx.toList == [119, 105, 116, 104]) = true := by
                  have := HWI.out
                  unfold sq at this
                  rw [Bool.true_and] at this
                  exact this.symm
                obtain ⟨_, _, t2, _, _, _⟩ := H7.out.cells
                simp only at t2
                obtain ⟨A, c, n, v0, v2, hn, hlev⟩ := H7.out.lay.view
                have hla := last_any st2 A c wc hlev (by omega)
                rw [← hn] at hla
                obtain ⟨V, hV⟩ : ∃ V, lastF st2 = V := ⟨_, rfl⟩
                rw [hV] at hla
                have hop : opens ⟨nk, nn, nt, na, nl, nc⟩ more st2 = (more && decide (nc > V.col)) := by unfold opens; rw [hV]
                obtain ⟨vb, vc, vt⟩ := V
                simp only [Lev.cells] at hla hop
                have HLA := Aside0.mk hla
                have HOP := Aside0.mk hop
                clear hla hop hV hlev v2 hn HWI
                have HM5 : Aside0 (∀ W, Calls Tryz.prog 124 #[.int .i64 5, .agg #[.int .i64 nk, .int .i64 nn, .string nt, .int .i64 na, .int .i64 nl, .int .i64 nc]] W fun e w' => e = .returned (.agg #[.int .i64 5, .int .i64 0, .string ⟨#[]⟩, .int .i64 na, .int .i64 nl, .int .i64 nc]) ∧ Below W.heap.size W w') := ⟨fun W => mark_any 5 ⟨nk, nn, nt, na, nl, nc⟩ W⟩
                have HM7 : Aside0 (∀ W, Calls Tryz.prog 124 #[.int .i64 7, .agg #[.int .i64 nk, .int .i64 nn, .string nt, .int .i64 na, .int .i64 nl, .int .i64 nc]] W fun e w' => e = .returned (.agg #[.int .i64 7, .int .i64 0, .string ⟨#[]⟩, .int .i64 na, .int .i64 nl, .int .i64 nc]) ∧ Below W.heap.size W w') := ⟨fun W => mark_any 7 ⟨nk, nn, nt, na, nl, nc⟩ W⟩
                cases hopn : opens ⟨nk, nn, nt, na, nl, nc⟩ more st2 with
                | true =>
                  have hmo := HOP.out
                  rw [hopn] at hmo
                  have hm1 : more = true := by
                    cases more with
                    | true => rfl
                    | false => rw [Bool.false_and] at hmo; cases hmo
                  subst hm1
                  have hgt : nc > vc := by simpa using hmo.symm
                  have hr4 := HR3.out
                  rw [oneC_with HCC.out HWW.out hopn, HO3.out] at hr4
                  have HR5 := Aside0.mk hr4
                  clear hr4 HR3 HO3 hmo hopn HOP HCC HWW
                  go_upto_region 24 with (first | (go_at_call 129; (with_reducible refine HLA.out.mono ?_); rintro e w2 ⟨rfl, hb⟩; have H8 := Aside0.mk (H7.out.below hb); have q0 : (w2.alloc (.cells #[.bool vb, .int .i64 vc, .string vt] 171)).cell? ⟨w.heap.size + 1, 0, none⟩ = some (.int .i64 nk) := cell_of (heap_alloc H8.out.boxn _) 0; have q1 : (w2.alloc (.cells #[.bool vb, .int .i64 vc, .string vt] 171)).cell? ⟨w.heap.size + 1, 1, none⟩ = some (.int .i64 nn) := cell_of (heap_alloc H8.out.boxn _) 1; have q2 : (w2.alloc (.cells #[.bool vb, .int .i64 vc, .string vt] 171)).cell? ⟨w.heap.size + 1, 2, none⟩ = some (.string nt) := cell_of (heap_alloc H8.out.boxn _) 2; have q3 : (w2.alloc (.cells #[.bool vb, .int .i64 vc, .string vt] 171)).cell? ⟨w.heap.size + 1, 3, none⟩ = some (.int .i64 na) := cell_of (heap_alloc H8.out.boxn _) 3; have q4 : (w2.alloc (.cells #[.bool vb, .int .i64 vc, .string vt] 171)).cell? ⟨w.heap.size + 1, 4, none⟩ = some (.int .i64 nl) := cell_of (heap_alloc H8.out.boxn _) 4; have q5 : (w2.alloc (.cells #[.bool vb, .int .i64 vc, .string vt] 171)).cell? ⟨w.heap.size + 1, 5, none⟩ = some (.int .i64 nc) := cell_of (heap_alloc H8.out.boxn _) 5; have H9 := Aside0.mk (H8.out.below ((Below.refl _ w2).alloc (Nat.le_refl _) (.cells #[.bool vb, .int .i64 vc, .string vt] 171))); clear hb) | (go_at_call 91; refine (open_any B y clo st2 out3 own3 _ H9.out.lay ⟨nk, nn, nt, na, nl, nc⟩ (by omega) (by omega) (Nat.le_trans hB (by have := H9.out.size; omega))).mono ?_; rintro e w3 ⟨rfl, hto⟩; obtain ⟨own4, h10⟩ := H9.out.to hto; have H10 := Aside0.mk h10; clear hto h10))
                  obtain ⟨A9, c9, n, v9, _, hn, _⟩ := H10.out.lay.view
                  have HN := Aside0.mk hn
                  clear hn
                  by_cases hbig : 60 < (n : Int)
                  · have hr5 := HR5.out
                    rw [oneFin_big (by simp only; rw [← HN.out]; exact hbig)] at hr5
                    subst hr5
                    go_wp2
                    go_ret2
                    exact ⟨rfl, _, _, fun h => (by cases h), H10.out.end⟩
                  · have hr5 := HR5.out
                    rw [oneFin_small (by simp only; rw [← HN.out]; exact hbig)] at hr5
                    subst hr5
                    go_wp2
                    go_ret2
                    exact ⟨rfl, _, _, fun _ => ⟨rfl, by first | rfl | simp [markF]⟩, H10.out.end⟩
                | false =>
                  have hr4 := HR3.out
                  rw [oneC_shut HCC.out HWW.out hopn, HO3.out] at hr4
                  have HR5 := Aside0.mk hr4
                  have hmo := HOP.out
                  rw [hopn] at hmo
                  clear hr4 HR3 HO3 hopn HOP HCC HWW
                  cases more with
                  | false =>
                    clear hmo
                    go_upto_region 23 with (go_at_call 129; (with_reducible refine HLA.out.mono ?_); rintro e w2 ⟨rfl, hb⟩; have H8 := Aside0.mk (H7.out.below hb); have q0 : (w2.alloc (.cells #[.bool vb, .int .i64 vc, .string vt] 171)).cell? ⟨w.heap.size + 1, 0, none⟩ = some (.int .i64 nk) := cell_of (heap_alloc H8.out.boxn _) 0; have q1 : (w2.alloc (.cells #[.bool vb, .int .i64 vc, .string vt] 171)).cell? ⟨w.heap.size + 1, 1, none⟩ = some (.int .i64 nn) := cell_of (heap_alloc H8.out.boxn _) 1; have q2 : (w2.alloc (.cells #[.bool vb, .int .i64 vc, .string vt] 171)).cell? ⟨w.heap.size + 1, 2, none⟩ = some (.string nt) := cell_of (heap_alloc H8.out.boxn _) 2; have q3 : (w2.alloc (.cells #[.bool vb, .int .i64 vc, .string vt] 171)).cell? ⟨w.heap.size + 1, 3, none⟩ = some (.int .i64 na) := cell_of (heap_alloc H8.out.boxn _) 3; have q4 : (w2.alloc (.cells #[.bool vb, .int .i64 vc, .string vt] 171)).cell? ⟨w.heap.size + 1, 4, none⟩ = some (.int .i64 nl) := cell_of (heap_alloc H8.out.boxn _) 4; have q5 : (w2.alloc (.cells #[.bool vb, .int .i64 vc, .string vt] 171)).cell? ⟨w.heap.size + 1, 5, none⟩ = some (.int .i64 nc) := cell_of (heap_alloc H8.out.boxn _) 5; have H9 := Aside0.mk (H8.out.below ((Below.refl _ w2).alloc (Nat.le_refl _) (.cells #[.bool vb, .int .i64 vc, .string vt] 171))); clear hb)
                    have HD := Aside0.mk (H9.out.below (Below.refl _ _).drew)
                    clear H8 H9
                    go_region_with (first | (go_at_call 124; (with_reducible refine (HM5.out _).mono ?_); rintro e w53 ⟨rfl, hb⟩; have hA5 : Aside0 (OneAt B y own w ⟨tk, tn, tx, ta, tl, tc⟩ ⟨nk, nn, nt, na, nl, nc⟩ st2 out3 own3 w53) := ⟨OneAt.below (Aside0.out (by assumption)) hb⟩; obtain ⟨k50, k51, k52, k53, k54, k55⟩ := hA5.out.cellsn; clear hb) | (go_at_call 124; (with_reducible refine (HM7.out _).mono ?_); rintro e w73 ⟨rfl, hb⟩; have hA7 : Aside0 (OneAt B y own w ⟨tk, tn, tx, ta, tl, tc⟩ ⟨nk, nn, nt, na, nl, nc⟩ st2 out3 own3 w73) := ⟨OneAt.below (Aside0.out (by assumption)) hb⟩; obtain ⟨k70, k71, k72, k73, k74, k75⟩ := hA7.out.cellsn; clear hb) | (go_at_call 123; have H9x := Aside0.mk (hA7.out.below ((Below.refl _ w73).alloc (Nat.le_refl _) (.cells #[.int .i64 5, .int .i64 0, .string ⟨#[]⟩, .int .i64 na, .int .i64 nl, .int .i64 nc, .int .i64 7, .int .i64 0, .string ⟨#[]⟩, .int .i64 na, .int .i64 nl, .int .i64 nc] 54))); refine (put2_any B y clo st2 out3 own3 _ H9x.out.lay ⟨5, 0, ⟨#[]⟩, na, nl, nc⟩ ⟨7, 0, ⟨#[]⟩, na, nl, nc⟩ ⟨w73.heap.size, 0, none⟩ 2 (cells_new w73 #[.int .i64 5, .int .i64 0, .string ⟨#[]⟩, .int .i64 na, .int .i64 nl, .int .i64 nc, .int .i64 7, .int .i64 0, .string ⟨#[]⟩, .int .i64 na, .int .i64 nl, .int .i64 nc] 54) (by omega) (Nat.le_trans hB (by have := H9x.out.size; omega))).mono ?_; rintro e w9 ⟨rfl, hto⟩; obtain ⟨own4, h10⟩ := H9x.out.to hto; have H10 := Aside0.mk h10; clear hto h10) | (go_at_call 123; have H9x := Aside0.mk (hA5.out.below ((Below.refl _ w53).alloc (Nat.le_refl _) (.cells #[.int .i64 5, .int .i64 0, .string ⟨#[]⟩, .int .i64 na, .int .i64 nl, .int .i64 nc, .int .i64 7, .int .i64 0, .string ⟨#[]⟩, .int .i64 na, .int .i64 nl, .int .i64 nc] 54))); refine (put2_any B y clo st2 out3 own3 _ H9x.out.lay ⟨5, 0, ⟨#[]⟩, na, nl, nc⟩ ⟨7, 0, ⟨#[]⟩, na, nl, nc⟩ ⟨w53.heap.size, 0, none⟩ 2 (cells_new w53 #[.int .i64 5, .int .i64 0, .string ⟨#[]⟩, .int .i64 na, .int .i64 nl, .int .i64 nc, .int .i64 7, .int .i64 0, .string ⟨#[]⟩, .int .i64 na, .int .i64 nl, .int .i64 nc] 54) (by omega) (Nat.le_trans hB (by have := H9x.out.size; omega))).mono ?_; rintro e w9 ⟨rfl, hto⟩; obtain ⟨own4, h10⟩ := H9x.out.to hto; have H10 := Aside0.mk h10; clear hto h10))
                    all_goals
                      obtain ⟨A9, c9, n, v9, _, hn, _⟩ := H10.out.lay.view
                      have HN := Aside0.mk hn
                      clear hn
                      by_cases hbig : 60 < (n : Int)
                      · have hr5 := HR5.out
                        rw [oneFin_big (by simp only; rw [← HN.out]; exact hbig)] at hr5
                        subst hr5
                        go_wp2
                        go_ret2
                        exact ⟨rfl, _, _, fun h => (by cases h), H10.out.end⟩
                      · have hr5 := HR5.out
                        rw [oneFin_small (by simp only; rw [← HN.out]; exact hbig)] at hr5
                        subst hr5
                        go_wp2
                        go_ret2
                        exact ⟨rfl, _, _, fun _ => ⟨rfl, by first | rfl | simp [markF]⟩, H10.out.end⟩
                  | true =>
                    have hgt : ¬ nc > vc := by simpa using hmo.symm
                    clear hmo
                    go_upto_region 23 with (go_at_call 129; (with_reducible refine HLA.out.mono ?_); rintro e w2 ⟨rfl, hb⟩; have H8 := Aside0.mk (H7.out.below hb); have q0 : (w2.alloc (.cells #[.bool vb, .int .i64 vc, .string vt] 171)).cell? ⟨w.heap.size + 1, 0, none⟩ = some (.int .i64 nk) := cell_of (heap_alloc H8.out.boxn _) 0; have q1 : (w2.alloc (.cells #[.bool vb, .int .i64 vc, .string vt] 171)).cell? ⟨w.heap.size + 1, 1, none⟩ = some (.int .i64 nn) := cell_of (heap_alloc H8.out.boxn _) 1; have q2 : (w2.alloc (.cells #[.bool vb, .int .i64 vc, .string vt] 171)).cell? ⟨w.heap.size + 1, 2, none⟩ = some (.string nt) := cell_of (heap_alloc H8.out.boxn _) 2; have q3 : (w2.alloc (.cells #[.bool vb, .int .i64 vc, .string vt] 171)).cell? ⟨w.heap.size + 1, 3, none⟩ = some (.int .i64 na) := cell_of (heap_alloc H8.out.boxn _) 3; have q4 : (w2.alloc (.cells #[.bool vb, .int .i64 vc, .string vt] 171)).cell? ⟨w.heap.size + 1, 4, none⟩ = some (.int .i64 nl) := cell_of (heap_alloc H8.out.boxn _) 4; have q5 : (w2.alloc (.cells #[.bool vb, .int .i64 vc, .string vt] 171)).cell? ⟨w.heap.size + 1, 5, none⟩ = some (.int .i64 nc) := cell_of (heap_alloc H8.out.boxn _) 5; have H9 := Aside0.mk (H8.out.below ((Below.refl _ w2).alloc (Nat.le_refl _) (.cells #[.bool vb, .int .i64 vc, .string vt] 171))); clear hb)
                    have HD := Aside0.mk (H9.out.below (Below.refl _ _).drew)
                    clear H8 H9
                    go_region_with (first | (go_at_call 124; (with_reducible refine (HM5.out _).mono ?_); rintro e w53 ⟨rfl, hb⟩; have hA5 : Aside0 (OneAt B y own w ⟨tk, tn, tx, ta, tl, tc⟩ ⟨nk, nn, nt, na, nl, nc⟩ st2 out3 own3 w53) := ⟨OneAt.below (Aside0.out (by assumption)) hb⟩; obtain ⟨k50, k51, k52, k53, k54, k55⟩ := hA5.out.cellsn; clear hb) | (go_at_call 124; (with_reducible refine (HM7.out _).mono ?_); rintro e w73 ⟨rfl, hb⟩; have hA7 : Aside0 (OneAt B y own w ⟨tk, tn, tx, ta, tl, tc⟩ ⟨nk, nn, nt, na, nl, nc⟩ st2 out3 own3 w73) := ⟨OneAt.below (Aside0.out (by assumption)) hb⟩; obtain ⟨k70, k71, k72, k73, k74, k75⟩ := hA7.out.cellsn; clear hb) | (go_at_call 123; have H9x := Aside0.mk (hA7.out.below ((Below.refl _ w73).alloc (Nat.le_refl _) (.cells #[.int .i64 5, .int .i64 0, .string ⟨#[]⟩, .int .i64 na, .int .i64 nl, .int .i64 nc, .int .i64 7, .int .i64 0, .string ⟨#[]⟩, .int .i64 na, .int .i64 nl, .int .i64 nc] 54))); refine (put2_any B y clo st2 out3 own3 _ H9x.out.lay ⟨5, 0, ⟨#[]⟩, na, nl, nc⟩ ⟨7, 0, ⟨#[]⟩, na, nl, nc⟩ ⟨w73.heap.size, 0, none⟩ 2 (cells_new w73 #[.int .i64 5, .int .i64 0, .string ⟨#[]⟩, .int .i64 na, .int .i64 nl, .int .i64 nc, .int .i64 7, .int .i64 0, .string ⟨#[]⟩, .int .i64 na, .int .i64 nl, .int .i64 nc] 54) (by omega) (Nat.le_trans hB (by have := H9x.out.size; omega))).mono ?_; rintro e w9 ⟨rfl, hto⟩; obtain ⟨own4, h10⟩ := H9x.out.to hto; have H10 := Aside0.mk h10; clear hto h10) | (go_at_call 123; have H9x := Aside0.mk (hA5.out.below ((Below.refl _ w53).alloc (Nat.le_refl _) (.cells #[.int .i64 5, .int .i64 0, .string ⟨#[]⟩, .int .i64 na, .int .i64 nl, .int .i64 nc, .int .i64 7, .int .i64 0, .string ⟨#[]⟩, .int .i64 na, .int .i64 nl, .int .i64 nc] 54))); refine (put2_any B y clo st2 out3 own3 _ H9x.out.lay ⟨5, 0, ⟨#[]⟩, na, nl, nc⟩ ⟨7, 0, ⟨#[]⟩, na, nl, nc⟩ ⟨w53.heap.size, 0, none⟩ 2 (cells_new w53 #[.int .i64 5, .int .i64 0, .string ⟨#[]⟩, .int .i64 na, .int .i64 nl, .int .i64 nc, .int .i64 7, .int .i64 0, .string ⟨#[]⟩, .int .i64 na, .int .i64 nl, .int .i64 nc] 54) (by omega) (Nat.le_trans hB (by have := H9x.out.size; omega))).mono ?_; rintro e w9 ⟨rfl, hto⟩; obtain ⟨own4, h10⟩ := H9x.out.to hto; have H10 := Aside0.mk h10; clear hto h10))
                    all_goals
                      obtain ⟨A9, c9, n, v9, _, hn, _⟩ := H10.out.lay.view
                      have HN := Aside0.mk hn
                      clear hn
                      by_cases hbig : 60 < (n : Int)
                      · have hr5 := HR5.out
                        rw [oneFin_big (by simp only; rw [← HN.out]; exact hbig)] at hr5
                        subst hr5
                        go_wp2
                        go_ret2
                        exact ⟨rfl, _, _, fun h => (by cases h), H10.out.end⟩
                      · have hr5 := HR5.out
                        rw [oneFin_small (by simp only; rw [← HN.out]; exact hbig)] at hr5
                        subst hr5
                        go_wp2
                        go_ret2
                        exact ⟨rfl, _, _, fun _ => ⟨rfl, by first | rfl | simp [markF]⟩, H10.out.end⟩
end Go.Proofs.YtfnhjdehlikbaaaGreatDoor.Lx
