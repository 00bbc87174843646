import Derived.Test.YtfnhjdehlikbaaaGreatDoorM7
set_option linter.unusedVariables false
set_option linter.unusedSimpArgs false
namespace Go.Proofs.YtfnhjdehlikbaaaGreatDoor.Lx
open Go.RowKit Go.Proofs.YtfnhjdehlikbaaaGreatDoorW.PrintWords
set_option maxRecDepth 1000000 in
set_option maxHeartbeats 16000000 in
theorem refLay_A {w : World} {l : List Tok} {g b n c i : Nat} {tk tn : Int} {tx : ByteArray} {ta tl tc : Int} {r : List Tok × Int × Int} {i0 j0 : TypeInfo} {wc : World} {Q' : Exit → Act → World → Prop} {J : Act → World → Prop} {u1 u2 u3 u4 u5 u6 u9 u12 u13 u14 u15 u16 u17 u18 u19 u20 u21 u22 u23 u24 u25 u26 u27 u28 u29 u30 u31 u32 u33 u34 u35 u36 u37 u38 u39 u40 u41 u42 u43 u44 u45 u46 u47 u48 u49 u50 u51 u52 u53 u54 u55 u56 u57 u58 u59 u61 u62 u63 u64 u65 u66 u67 u68 u69 u70 u71 u72 u73 u74 u75 u76 u77 u78 u79 u80 u81 u82 u83 u84 u85 u86 u87 u88 u89 u90 u91 u92 u93 u94 u95 u96 u97 u98 u99 u100 u101 u102 u103 u104 u105 u106 u107 u108 u109 u110 u111 u112 u113 u114 u115 u116 u117 u118 u119 u120 u121 u122 u123 u124 u125 u126 u127 u128 u129 u130 u131 u132 u133 u134 u135 u136 u137 u138 u139 u140 u141 u142 u143 u144 u145 u146 u147 u148 u149 u150 u151 u152 u153 u154 u155 u156 u157 u158 u159 u160 u161 u162 u163 u164 u165 u166 u167 u168 u169 u170 u171 u172 u173 u174 u175 u176 u177 u178 u179 u180 u181 u182 u183 u184 u185 u186 u187 u188 u189 u190 u191 u192 u193 u194 u195 u196 u197 u198 u199 u200 u201 u202 u203 u204 u205 u206 u207 u208 u209 u210 u211 u212 u213 u214 u215 u216 u217 u218 u219 u220 u221 u222 u223 u224 u225 u226 u227 u228 u229 u230 u231 u232 u233 u234 u235 u236 u237 u238 u239 u240 u241 u242 u243 u244 u245 u246 u247 u248 u249 : Value}
    (HI : Aside0 (Tryz.prog.info? 121 = some i0)) (HZ0 : Aside0 (i0.zero = some (.agg #[.int .i64 0, .int .i64 0, .string ⟨#[]⟩, .int .i64 0, .int .i64 0, .int .i64 0]))) (HZ1 : Aside0 (i0.size = 6)) (HZ2 : Aside0 (i0.bytes = 56))
    (HJ : Aside0 (Tryz.prog.info? 159 = some j0)) (HY0 : Aside0 (j0.zero = some (.agg #[.bool false, .int .i64 0, .string ⟨#[]⟩]))) (HY1 : Aside0 (j0.size = 3)) (HY2 : Aside0 (j0.bytes = 32))
    (hl : n ≤ 4000) (hi2 : (i : Int) < (n : Int)) (hi0 : (0 : Int) ≤ (i : Int))
    {st : List Lev} {out : List Tok} {O S : Option Addr} {no co ns cs : Nat}
    (hlen : no + ns ≤ 2 + 4 * i) (HA1 : Aside0 (RefA w l (some ⟨g, 0, none⟩) b ⟨tk, tn, tx, ta, tl, tc⟩ st (.slice S ns cs) out (.slice O no co) wc))
    (HVI : Aside0 (∀ (k : Int) W, SrcC (some ⟨g, 0, none⟩) l W → Calls Tryz.prog 109 #[.int .i64 k, .slice (some ⟨g, 0, none⟩) n c, .int .i64 (i : Int)] W fun e w' => e = .returned (.agg #[.int .i64 k, .int .i64 0, .string ⟨#[]⟩, .int .i64 ta, .int .i64 tl, .int .i64 tc]) ∧ Below W.heap.size W w'))
    (HBAD : Aside0 (badA ⟨tk, tn, tx, ta, tl, tc⟩ true st out = true → r = ([], (i : Int), 15)))
    (HJ1 : Aside0 (∀ (x7 x8 x12 x61 x62 x63 x64 x65 x66 x67 x68 x69 x70 x71 x72 x73 x74 x75 x76 x77 x78 x79 x80 x81 x82 x83 x84 x85 x86 x87 x88 x89 x90 x91 x92 x93 x94 x95 x96 x97 x98 x99 x100 x101 x102 x103 x104 x105 x106 x107 x108 x109 x110 x111 x112 x113 x114 x115 x116 x117 x118 x119 x120 : Value) (w' : World), (∃ (O' S' : Option Addr) (no' co' ns' cs' : Nat), x7 = .slice O' no' co' ∧ x8 = .slice S' ns' cs' ∧ no' + ns' ≤ no + ns + 1 ∧ Aside0 (badA ⟨tk, tn, tx, ta, tl, tc⟩ true st out = false ∧ RefA w l (some ⟨g, 0, none⟩) b ⟨tk, tn, tx, ta, tl, tc⟩ (oneA ⟨tk, tn, tx, ta, tl, tc⟩ true st out).1 (.slice S' ns' cs') (oneA ⟨tk, tn, tx, ta, tl, tc⟩ true st out).2 (.slice O' no' co') w')) → J ⟨#[.slice (some ⟨g, 0, none⟩) n c, u1, u2, u3, u4, u5, u6, x7, x8, u9, .int .i64 (i : Int), .pointer (some ⟨b, 0, none⟩), x12, u13, u14, u15, u16, u17, u18, u19, u20, u21, u22, u23, u24, u25, u26, u27, u28, u29, u30, u31, u32, u33, u34, u35, u36, u37, u38, u39, u40, u41, u42, u43, u44, u45, u46, u47, u48, u49, u50, u51, u52, u53, u54, u55, u56, u57, u58, u59, .bool true, x61, x62, x63, x64, x65, x66, x67, x68, x69, x70, x71, x72, x73, x74, x75, x76, x77, x78, x79, x80, x81, x82, x83, x84, x85, x86, x87, x88, x89, x90, x91, x92, x93, x94, x95, x96, x97, x98, x99, x100, x101, x102, x103, x104, x105, x106, x107, x108, x109, x110, x111, x112, x113, x114, x115, x116, x117, x118, x119, x120, u121, u122, u123, u124, u125, u126, u127, u128, u129, u130, u131, u132, u133, u134, u135, u136, u137, u138, u139, u140, u141, u142, u143, u144, u145, u146, u147, u148, u149, u150, u151, u152, u153, u154, u155, u156, u157, u158, u159, u160, u161, u162, u163, u164, u165, u166, u167, u168, u169, u170, u171, u172, u173, u174, u175, u176, u177, u178, u179, u180, u181, u182, u183, u184, u185, u186, u187, u188, u189, u190, u191, u192, u193, u194, u195, u196, u197, u198, u199, u200, u201, u202, u203, u204, u205, u206, u207, u208, u209, u210, u211, u212, u213, u214, u215, u216, u217, u218, u219, u220, u221, u222, u223, u224, u225, u226, u227, u228, u229, u230, u231, u232, u233, u234, u235, u236, u237, u238, u239, u240, u241, u242, u243, u244, u245, u246, u247, u248, u249], []⟩ w'))
    (HRET : Aside0 (∀ (x7 x8 x12 x61 x62 x63 x64 x65 x66 x67 x68 x69 x70 x71 x72 x73 x74 x75 x76 x77 x78 x79 x80 x81 x82 x83 x84 x85 x86 x87 x88 x89 x90 x91 x92 x93 x94 x95 x96 x97 x98 x99 x100 x101 x102 x103 x104 x105 x106 x107 x108 x109 x110 x111 x112 x113 x114 x115 x116 x117 x118 x119 x120 : Value) (w' : World), r = ([], (i : Int), 15) ∧ Below w.heap.size w w' → Q' .ret ⟨#[.slice (some ⟨g, 0, none⟩) n c, u1, .slice none 0 0, .int .i64 (i : Int), .int .i64 15, u5, u6, x7, x8, u9, .int .i64 (i : Int), .pointer (some ⟨b, 0, none⟩), x12, u13, u14, u15, u16, u17, u18, u19, u20, u21, u22, u23, u24, u25, u26, u27, u28, u29, u30, u31, u32, u33, u34, u35, u36, u37, u38, u39, u40, u41, u42, u43, u44, u45, u46, u47, u48, u49, u50, u51, u52, u53, u54, u55, u56, u57, u58, u59, .bool true, x61, x62, x63, x64, x65, x66, x67, x68, x69, x70, x71, x72, x73, x74, x75, x76, x77, x78, x79, x80, x81, x82, x83, x84, x85, x86, x87, x88, x89, x90, x91, x92, x93, x94, x95, x96, x97, x98, x99, x100, x101, x102, x103, x104, x105, x106, x107, x108, x109, x110, x111, x112, x113, x114, x115, x116, x117, x118, x119, x120, u121, u122, u123, u124, u125, u126, u127, u128, u129, u130, u131, u132, u133, u134, u135, u136, u137, u138, u139, u140, u141, u142, u143, u144, u145, u146, u147, u148, u149, u150, u151, u152, u153, u154, u155, u156, u157, u158, u159, u160, u161, u162, u163, u164, u165, u166, u167, u168, u169, u170, u171, u172, u173, u174, u175, u176, u177, u178, u179, u180, u181, u182, u183, u184, u185, u186, u187, u188, u189, u190, u191, u192, u193, u194, u195, u196, u197, u198, u199, u200, u201, u202, u203, u204, u205, u206, u207, u208, u209, u210, u211, u212, u213, u214, u215, u216, u217, u218, u219, u220, u221, u222, u223, u224, u225, u226, u227, u228, u229, u230, u231, u232, u233, u234, u235, u236, u237, u238, u239, u240, u241, u242, u243, u244, u245, u246, u247, u248, u249], []⟩ w')) :
    Code.wp Tryz.prog (codeIf 60) (Exit.then J Q') ⟨#[.slice (some ⟨g, 0, none⟩) n c, u1, u2, u3, u4, u5, u6, .slice O no co, .slice S ns cs, u9, .int .i64 (i : Int), .pointer (some ⟨b, 0, none⟩), u12, u13, u14, u15, u16, u17, u18, u19, u20, u21, u22, u23, u24, u25, u26, u27, u28, u29, u30, u31, u32, u33, u34, u35, u36, u37, u38, u39, u40, u41, u42, u43, u44, u45, u46, u47, u48, u49, u50, u51, u52, u53, u54, u55, u56, u57, u58, u59, .bool true, u61, u62, u63, u64, u65, u66, u67, u68, u69, u70, u71, u72, u73, u74, u75, u76, u77, u78, u79, u80, u81, u82, u83, u84, u85, u86, u87, u88, u89, u90, u91, u92, u93, u94, u95, u96, u97, u98, u99, u100, u101, u102, u103, u104, u105, u106, u107, u108, u109, u110, u111, u112, u113, u114, u115, u116, u117, u118, u119, u120, u121, u122, u123, u124, u125, u126, u127, u128, u129, u130, u131, u132, u133, u134, u135, u136, u137, u138, u139, u140, u141, u142, u143, u144, u145, u146, u147, u148, u149, u150, u151, u152, u153, u154, u155, u156, u157, u158, u159, u160, u161, u162, u163, u164, u165, u166, u167, u168, u169, u170, u171, u172, u173, u174, u175, u176, u177, u178, u179, u180, u181, u182, u183, u184, u185, u186, u187, u188, u189, u190, u191, u192, u193, u194, u195, u196, u197, u198, u199, u200, u201, u202, u203, u204, u205, u206, u207, u208, u209, u210, u211, u212, u213, u214, u215, u216, u217, u218, u219, u220, u221, u222, u223, u224, u225, u226, u227, u228, u229, u230, u231, u232, u233, u234, u235, u236, u237, u238, u239, u240, u241, u242, u243, u244, u245, u246, u247, u248, u249], []⟩ wc := by
  conv => arg 2; whnf
  obtain ⟨SS, hSS⟩ : ∃ SS, shutF (deeper ⟨tk, tn, tx, ta, tl, tc⟩) ⟨tk, tn, tx, ta, tl, tc⟩ st out = SS := ⟨_, rfl⟩
  have HBA : Aside0 (badA ⟨tk, tn, tx, ta, tl, tc⟩ true st out = SS.1.isEmpty) := ⟨by simp [badA, hSS]⟩
  have HOA : Aside0 (oneA ⟨tk, tn, tx, ta, tl, tc⟩ true st out = (SS.1, if ((topF SS.1).block && (topF SS.1).col == tc) = true then SS.2 ++ [markF 6 ⟨tk, tn, tx, ta, tl, tc⟩] else SS.2)) := ⟨by simp [oneA, hSS]⟩
  have HSS := Aside0.mk hSS
  clear hSS
  go_wp2
  go_loopg [7, 8] (ns + 1) (fun f2 t7 t8 wq => ∃ (st' : List Lev) (out' : List Tok) (O' S' : Option Addr) (no' co' ns' cs' : Nat), t7 = .slice O' no' co' ∧ t8 = .slice S' ns' cs' ∧ ns' + 1 = f2 ∧ no' + ns' ≤ no + ns ∧ Aside0 (RefA w l (some ⟨g, 0, none⟩) b ⟨tk, tn, tx, ta, tl, tc⟩ st' (.slice S' ns' cs') out' (.slice O' no' co') wq ∧ shutF (deeper ⟨tk, tn, tx, ta, tl, tc⟩) ⟨tk, tn, tx, ta, tl, tc⟩ st' out' = SS))
  case atStart => exact ⟨st, out, _, _, _, _, _, _, rfl, rfl, rfl, Nat.le_refl _, ⟨HA1.out, HSS.out⟩⟩
  case round =>
    obtain ⟨st', out', O', S', no', co', ns', cs', rfl, rfl, hf2, hle, hB⟩ := hrel
    have HQ := Aside0.mk hB.out.1
    have hsh := hB.out.2
    clear hB HSS HA1
    obtain ⟨t0, t1, t2, t3, t4, t5⟩ := HQ.out.cells
    simp only at t0 t1 t2 t3 t4 t5
    go_upto_region 14 with (fail)
    cases ns' with
    | zero =>
      have hst := HQ.out.head.nil0
      subst hst
      rw [shutF_nil] at hsh
      subst hsh
      have HRB : Aside0 (r = ([], (i : Int), 15)) := ⟨HBAD.out (by rw [HBA.out]; rfl)⟩
      go_quiet (fail)
      go_wp2
      apply HRET.out
      exact ⟨HRB.out, (HQ.out.step (bdrew _ _)).head.below⟩
    | succ m =>
      obtain ⟨s0, u, g3, rfl, rfl, p0, p1, p2⟩ := HQ.out.head.topn
      obtain ⟨ub, uc, ux⟩ := u
      simp only at p0 p1 p2
      have hpos : (0 : Int) < ((m + 1 : Nat) : Int) := by omega
      have hpos2 : (0 : Int) < (m : Int) + 1 := by omega
      have hnn0 : (0 : Int) ≤ (m : Int) := by omega
      have hx1 : IntKind.i64.wrap (((m + 1 : Nat) : Int) - 1) = (m : Int) := by rw [IntWalk.i64_in _ (by omega)]; omega
      have hx2 : IntKind.i64.wrap ((m : Int) + 1 - 1) = (m : Int) := by rw [IntWalk.i64_in _ (by omega)]; omega
      have hne : (((m + 1 : Nat) : Int) == 0) = false := by simp; omega
      have hne2 : ((m : Int) + 1 == 0) = false := by simp; omega
      cases ub with
      | false =>
        rw [shutF_stop rfl] at hsh
        subst hsh
        have HBD : Aside0 (badA ⟨tk, tn, tx, ta, tl, tc⟩ true st out = false) := ⟨by rw [HBA.out]; simp⟩
        have HOA2 : Aside0 (oneA ⟨tk, tn, tx, ta, tl, tc⟩ true st out = (s0 ++ [⟨false, uc, ux⟩], out')) := ⟨by rw [HOA.out, topF_snoc]; rfl⟩
        go_quiet (fail)
        have hzz := HQ.out.step (bdrew wr nq)
        generalize wr.drewN nq = wz at hzz ⊢
        clear t0 t1 t2 t3 t4 t5 p0 p1 p2
        obtain ⟨t0, t1, t2, t3, t4, t5⟩ := hzz.cells
        obtain ⟨p0, p1, p2⟩ := hzz.head.topc
        simp only at t0 t1 t2 t3 t4 t5 p0 p1 p2
        have HZ := Aside0.mk hzz
        clear hzz
        go_wp2
        apply HJ1.out
        exact ⟨_, _, _, _, _, _, rfl, rfl, by omega, ⟨HBD.out, by rw [HOA2.out]; exact HZ.out.alloc _⟩⟩
      | true =>
        by_cases hc : uc > tc
        · rw [shutF_go (by simp [deeper]; omega)] at hsh
          have HSH := Aside0.mk hsh
          clear hsh
          obtain rfl : gk = m + 1 + 1 := by omega
          have hmc : (m : Int) ≤ (cs' : Int) := by have := HQ.out.head.cap; omega
          go_quiet (fail)
          have HQ2 := Aside0.mk (HQ.out.step (bdrew wr nq))
          go_wp2_with (first | (go_at_call 109; refine (HVI.out 7 _ HQ2.out.head.src).mono ?_; rintro e w5 ⟨rfl, hb5⟩; have H5 := Aside0.mk (HQ2.out.step hb5); clear hb5) | (at_builtin; refine wpList_append_own_at _ rfl _ _ 68 rfl w.heap.size 121 i0 _ 6 56 Tryz.underlying68 HI.out HZ0.out HZ1.out HZ2.out rfl (by decide) (.slice O' no' co') no' (flat out') rfl (H5.out.head.outn.alloc _) ⟨w5.heap.size, 0, none⟩ 1 1 [.int .i64 7, .int .i64 0, .string ⟨#[]⟩, .int .i64 ta, .int .i64 tl, .int .i64 tc] rfl rfl (fun j u h => cells_new w5 #[.int .i64 7, .int .i64 0, .string ⟨#[]⟩, .int .i64 ta, .int .i64 tl, .int .i64 tc] 121 j u h) (by simp [Value.oneCell']) (by unfold maxLen; omega) (by omega) (Nat.le_trans H5.out.head.below.size (by simp)) ?_; intro v6 w6 hown' hgrow _ hat; obtain ⟨O6, co6, rfl⟩ := ownsRow_succ hown'; have HP6 := Aside0.mk ((H5.out.alloc _).putn (x := markF 7 ⟨tk, tn, tx, ta, tl, tc⟩) hgrow hown' hat); clear hown' hgrow hat))
          go_roundg (m + 1)
          case measure => omega
          case rel => exact ⟨s0, _, _, _, _, _, m, cs', rfl, rfl, rfl, by omega, ⟨HP6.out.lower, HSH.out⟩⟩
        · rw [shutF_stop (by simp [deeper]; omega)] at hsh
          subst hsh
          have HBD : Aside0 (badA ⟨tk, tn, tx, ta, tl, tc⟩ true st out = false) := ⟨by rw [HBA.out]; simp⟩
          cases hcc : (uc == tc) with
          | false =>
            have HOA2 : Aside0 (oneA ⟨tk, tn, tx, ta, tl, tc⟩ true st out = (s0 ++ [⟨true, uc, ux⟩], out')) := ⟨by rw [HOA.out, topF_snoc]; simp [hcc]⟩
            go_quiet (fail)
            have hzz := HQ.out.step (bdrew wr nq)
            generalize wr.drewN nq = wz at hzz ⊢
            clear t0 t1 t2 t3 t4 t5 p0 p1 p2
            obtain ⟨t0, t1, t2, t3, t4, t5⟩ := hzz.cells
            obtain ⟨p0, p1, p2⟩ := hzz.head.topc
            simp only at t0 t1 t2 t3 t4 t5 p0 p1 p2
            have HZ := Aside0.mk hzz
            clear hzz
            obtain ⟨_, _, _, _, _, t5⟩ := (HZ.out.alloc (.cells #[.bool true, .int .i64 uc, .string ux] 159)).cells
            simp only at t5
            go_wp2
            apply HJ1.out
            exact ⟨_, _, _, _, _, _, rfl, rfl, by omega, ⟨HBD.out, by rw [HOA2.out]; exact HZ.out.alloc _⟩⟩
          | true =>
            have HOA2 : Aside0 (oneA ⟨tk, tn, tx, ta, tl, tc⟩ true st out = (s0 ++ [⟨true, uc, ux⟩], out' ++ [markF 6 ⟨tk, tn, tx, ta, tl, tc⟩])) := ⟨by rw [HOA.out, topF_snoc]; simp [hcc]⟩
            go_quiet (fail)
            have hzz := HQ.out.step (bdrew wr nq)
            generalize wr.drewN nq = wz at hzz ⊢
            clear t0 t1 t2 t3 t4 t5 p0 p1 p2
            obtain ⟨t0, t1, t2, t3, t4, t5⟩ := hzz.cells
            obtain ⟨p0, p1, p2⟩ := hzz.head.topc
            simp only at t0 t1 t2 t3 t4 t5 p0 p1 p2
            have HZ := Aside0.mk hzz
            clear hzz
            have HQ2 := Aside0.mk (HZ.out.alloc (.cells #[.bool true, .int .i64 uc, .string ux] 159))
            obtain ⟨_, _, _, _, _, t5⟩ := HQ2.out.cells
            simp only at t5
            go_wp2_with (first | (go_at_call 109; refine (HVI.out 6 _ HQ2.out.head.src).mono ?_; rintro e w5 ⟨rfl, hb5⟩; have H5 := Aside0.mk (HQ2.out.step hb5); clear hb5) | (at_builtin; refine wpList_append_own_at _ rfl _ _ 68 rfl w.heap.size 121 i0 _ 6 56 Tryz.underlying68 HI.out HZ0.out HZ1.out HZ2.out rfl (by decide) (.slice O' no' co') no' (flat out') rfl (H5.out.head.outn.alloc _) ⟨w5.heap.size, 0, none⟩ 1 1 [.int .i64 6, .int .i64 0, .string ⟨#[]⟩, .int .i64 ta, .int .i64 tl, .int .i64 tc] rfl rfl (fun j u h => cells_new w5 #[.int .i64 6, .int .i64 0, .string ⟨#[]⟩, .int .i64 ta, .int .i64 tl, .int .i64 tc] 121 j u h) (by simp [Value.oneCell']) (by unfold maxLen; omega) (by omega) (Nat.le_trans H5.out.head.below.size (by simp)) ?_; intro v6 w6 hown' hgrow _ hat; obtain ⟨O6, co6, rfl⟩ := ownsRow_succ hown'; have HP6 := Aside0.mk ((H5.out.alloc _).putn (x := markF 6 ⟨tk, tn, tx, ta, tl, tc⟩) hgrow hown' hat); clear hown' hgrow hat))
            apply HJ1.out
            exact ⟨_, _, _, _, _, _, rfl, rfl, by omega, ⟨HBD.out, by rw [HOA2.out]; exact HP6.out⟩⟩
end Go.Proofs.YtfnhjdehlikbaaaGreatDoor.Lx
namespace Go.Proofs.YtfnhjdehlikbaaaGreatDoor.Lx
open Go.RowKit Go.Proofs.YtfnhjdehlikbaaaGreatDoorW.PrintWords
set_option maxRecDepth 1000000 in
set_option maxHeartbeats 16000000 in
theorem refLay_B {w : World} {l : List Tok} {g b n c i : Nat} {tk tn : Int} {tx : ByteArray} {ta tl tc : Int} {r : List Tok × Int × Int} {i0 j0 : TypeInfo} {wc : World} {Q' : Exit → Act → World → Prop} {J : Act → World → Prop} {u1 u2 u3 u4 u5 u6 u9 u12 u13 u14 u15 u16 u17 u18 u19 u20 u21 u22 u23 u24 u25 u26 u27 u28 u29 u30 u31 u32 u33 u34 u35 u36 u37 u38 u39 u40 u41 u42 u43 u44 u45 u46 u47 u48 u49 u50 u51 u52 u53 u54 u55 u56 u57 u58 u59 u60 u61 u62 u63 u64 u65 u66 u67 u68 u69 u70 u71 u72 u73 u74 u75 u76 u77 u78 u79 u80 u81 u82 u83 u84 u85 u86 u87 u88 u89 u90 u91 u92 u93 u94 u95 u96 u97 u98 u99 u100 u101 u102 u103 u104 u105 u106 u107 u108 u109 u110 u111 u112 u113 u114 u115 u116 u117 u118 u119 u120 u121 u123 u124 u125 u126 u127 u128 u129 u130 u131 u132 u133 u134 u135 u136 u137 u138 u139 u140 u141 u142 u143 u144 u145 u146 u147 u148 u149 u150 u151 u152 u153 u154 u155 u156 u157 u158 u159 u160 u161 u162 u163 u164 u165 u166 u167 u168 u169 u170 u171 u172 u173 u174 u175 u176 u177 u178 u179 u180 u181 u182 u183 u184 u185 u186 u187 u188 u189 u190 u191 u192 u193 u194 u195 u196 u197 u198 u199 u200 u201 u202 u203 u204 u205 u206 u207 u208 u209 u210 u211 u212 u213 u214 u215 u216 u217 u218 u219 u220 u221 u222 u223 u224 u225 u226 u227 u228 u229 u230 u231 u232 u233 u234 u235 u236 u237 u238 u239 u240 u241 u242 u243 u244 u245 u246 u247 u248 u249 : Value}
    (HI : Aside0 (Tryz.prog.info? 121 = some i0)) (HZ0 : Aside0 (i0.zero = some (.agg #[.int .i64 0, .int .i64 0, .string ⟨#[]⟩, .int .i64 0, .int .i64 0, .int .i64 0]))) (HZ1 : Aside0 (i0.size = 6)) (HZ2 : Aside0 (i0.bytes = 56))
    (HJ : Aside0 (Tryz.prog.info? 159 = some j0)) (HY0 : Aside0 (j0.zero = some (.agg #[.bool false, .int .i64 0, .string ⟨#[]⟩]))) (HY1 : Aside0 (j0.size = 3)) (HY2 : Aside0 (j0.bytes = 32))
    (hl : n ≤ 4000) (hi2 : (i : Int) < (n : Int)) (hi0 : (0 : Int) ≤ (i : Int))
    {st1 : List Lev} {out1 : List Tok} {O1 S1 : Option Addr} {no1 co1 ns1 cs1 : Nat}
    (hlen : no1 + ns1 ≤ 2 + 4 * i + 1) (H5 : Aside0 (RefA w l (some ⟨g, 0, none⟩) b ⟨tk, tn, tx, ta, tl, tc⟩ st1 (.slice S1 ns1 cs1) out1 (.slice O1 no1 co1) wc))
    (HVI : Aside0 (∀ (k : Int) W, SrcC (some ⟨g, 0, none⟩) l W → Calls Tryz.prog 109 #[.int .i64 k, .slice (some ⟨g, 0, none⟩) n c, .int .i64 (i : Int)] W fun e w' => e = .returned (.agg #[.int .i64 k, .int .i64 0, .string ⟨#[]⟩, .int .i64 ta, .int .i64 tl, .int .i64 tc]) ∧ Below W.heap.size W w'))
    (HCL : Aside0 (closing ⟨tk, tn, tx, ta, tl, tc⟩ = true)) (HBAD : Aside0 (badB ⟨tk, tn, tx, ta, tl, tc⟩ st1 out1 = true → r = ([], (i : Int), 7)))
    (HJ1 : Aside0 (∀ (x7 x8 x123 x124 x125 x126 x127 x128 x129 x130 x131 x132 x133 x134 x135 x136 x137 x138 x139 x140 x141 x142 x143 x144 x145 x146 x147 x148 x149 x150 x151 x152 x153 x154 x155 x156 x157 x158 x159 x160 x161 x162 x163 x164 x165 x166 x167 : Value) (w' : World), (∃ (O' S' : Option Addr) (no' co' ns' cs' : Nat), x7 = .slice O' no' co' ∧ x8 = .slice S' ns' cs' ∧ no' + ns' ≤ no1 + ns1 ∧ Aside0 (badB ⟨tk, tn, tx, ta, tl, tc⟩ st1 out1 = false ∧ RefA w l (some ⟨g, 0, none⟩) b ⟨tk, tn, tx, ta, tl, tc⟩ (oneB ⟨tk, tn, tx, ta, tl, tc⟩ st1 out1).1 (.slice S' ns' cs') (oneB ⟨tk, tn, tx, ta, tl, tc⟩ st1 out1).2 (.slice O' no' co') w')) → J ⟨#[.slice (some ⟨g, 0, none⟩) n c, u1, u2, u3, u4, u5, u6, x7, x8, u9, .int .i64 (i : Int), .pointer (some ⟨b, 0, none⟩), u12, u13, u14, u15, u16, u17, u18, u19, u20, u21, u22, u23, u24, u25, u26, u27, u28, u29, u30, u31, u32, u33, u34, u35, u36, u37, u38, u39, u40, u41, u42, u43, u44, u45, u46, u47, u48, u49, u50, u51, u52, u53, u54, u55, u56, u57, u58, u59, u60, u61, u62, u63, u64, u65, u66, u67, u68, u69, u70, u71, u72, u73, u74, u75, u76, u77, u78, u79, u80, u81, u82, u83, u84, u85, u86, u87, u88, u89, u90, u91, u92, u93, u94, u95, u96, u97, u98, u99, u100, u101, u102, u103, u104, u105, u106, u107, u108, u109, u110, u111, u112, u113, u114, u115, u116, u117, u118, u119, u120, u121, .bool true, x123, x124, x125, x126, x127, x128, x129, x130, x131, x132, x133, x134, x135, x136, x137, x138, x139, x140, x141, x142, x143, x144, x145, x146, x147, x148, x149, x150, x151, x152, x153, x154, x155, x156, x157, x158, x159, x160, x161, x162, x163, x164, x165, x166, x167, u168, u169, u170, u171, u172, u173, u174, u175, u176, u177, u178, u179, u180, u181, u182, u183, u184, u185, u186, u187, u188, u189, u190, u191, u192, u193, u194, u195, u196, u197, u198, u199, u200, u201, u202, u203, u204, u205, u206, u207, u208, u209, u210, u211, u212, u213, u214, u215, u216, u217, u218, u219, u220, u221, u222, u223, u224, u225, u226, u227, u228, u229, u230, u231, u232, u233, u234, u235, u236, u237, u238, u239, u240, u241, u242, u243, u244, u245, u246, u247, u248, u249], []⟩ w'))
    (HRET : Aside0 (∀ (x7 x8 x123 x124 x125 x126 x127 x128 x129 x130 x131 x132 x133 x134 x135 x136 x137 x138 x139 x140 x141 x142 x143 x144 x145 x146 x147 x148 x149 x150 x151 x152 x153 x154 x155 x156 x157 x158 x159 x160 x161 x162 x163 x164 x165 x166 x167 : Value) (w' : World), r = ([], (i : Int), 7) ∧ Below w.heap.size w w' → Q' .ret ⟨#[.slice (some ⟨g, 0, none⟩) n c, u1, .slice none 0 0, .int .i64 (i : Int), .int .i64 7, u5, u6, x7, x8, u9, .int .i64 (i : Int), .pointer (some ⟨b, 0, none⟩), u12, u13, u14, u15, u16, u17, u18, u19, u20, u21, u22, u23, u24, u25, u26, u27, u28, u29, u30, u31, u32, u33, u34, u35, u36, u37, u38, u39, u40, u41, u42, u43, u44, u45, u46, u47, u48, u49, u50, u51, u52, u53, u54, u55, u56, u57, u58, u59, u60, u61, u62, u63, u64, u65, u66, u67, u68, u69, u70, u71, u72, u73, u74, u75, u76, u77, u78, u79, u80, u81, u82, u83, u84, u85, u86, u87, u88, u89, u90, u91, u92, u93, u94, u95, u96, u97, u98, u99, u100, u101, u102, u103, u104, u105, u106, u107, u108, u109, u110, u111, u112, u113, u114, u115, u116, u117, u118, u119, u120, u121, .bool true, x123, x124, x125, x126, x127, x128, x129, x130, x131, x132, x133, x134, x135, x136, x137, x138, x139, x140, x141, x142, x143, x144, x145, x146, x147, x148, x149, x150, x151, x152, x153, x154, x155, x156, x157, x158, x159, x160, x161, x162, x163, x164, x165, x166, x167, u168, u169, u170, u171, u172, u173, u174, u175, u176, u177, u178, u179, u180, u181, u182, u183, u184, u185, u186, u187, u188, u189, u190, u191, u192, u193, u194, u195, u196, u197, u198, u199, u200, u201, u202, u203, u204, u205, u206, u207, u208, u209, u210, u211, u212, u213, u214, u215, u216, u217, u218, u219, u220, u221, u222, u223, u224, u225, u226, u227, u228, u229, u230, u231, u232, u233, u234, u235, u236, u237, u238, u239, u240, u241, u242, u243, u244, u245, u246, u247, u248, u249], []⟩ w')) :
    Code.wp Tryz.prog (codeIf 122) (Exit.then J Q') ⟨#[.slice (some ⟨g, 0, none⟩) n c, u1, u2, u3, u4, u5, u6, .slice O1 no1 co1, .slice S1 ns1 cs1, u9, .int .i64 (i : Int), .pointer (some ⟨b, 0, none⟩), u12, u13, u14, u15, u16, u17, u18, u19, u20, u21, u22, u23, u24, u25, u26, u27, u28, u29, u30, u31, u32, u33, u34, u35, u36, u37, u38, u39, u40, u41, u42, u43, u44, u45, u46, u47, u48, u49, u50, u51, u52, u53, u54, u55, u56, u57, u58, u59, u60, u61, u62, u63, u64, u65, u66, u67, u68, u69, u70, u71, u72, u73, u74, u75, u76, u77, u78, u79, u80, u81, u82, u83, u84, u85, u86, u87, u88, u89, u90, u91, u92, u93, u94, u95, u96, u97, u98, u99, u100, u101, u102, u103, u104, u105, u106, u107, u108, u109, u110, u111, u112, u113, u114, u115, u116, u117, u118, u119, u120, u121, .bool true, u123, u124, u125, u126, u127, u128, u129, u130, u131, u132, u133, u134, u135, u136, u137, u138, u139, u140, u141, u142, u143, u144, u145, u146, u147, u148, u149, u150, u151, u152, u153, u154, u155, u156, u157, u158, u159, u160, u161, u162, u163, u164, u165, u166, u167, u168, u169, u170, u171, u172, u173, u174, u175, u176, u177, u178, u179, u180, u181, u182, u183, u184, u185, u186, u187, u188, u189, u190, u191, u192, u193, u194, u195, u196, u197, u198, u199, u200, u201, u202, u203, u204, u205, u206, u207, u208, u209, u210, u211, u212, u213, u214, u215, u216, u217, u218, u219, u220, u221, u222, u223, u224, u225, u226, u227, u228, u229, u230, u231, u232, u233, u234, u235, u236, u237, u238, u239, u240, u241, u242, u243, u244, u245, u246, u247, u248, u249], []⟩ wc := by
  conv => arg 2; whnf
  have HC1 : Aside0 (closing ⟨tk, tn, tx, ta, tl, tc⟩ = true) := ⟨HCL.out⟩
  obtain ⟨SS, hSS⟩ : ∃ SS, shutF anyL ⟨tk, tn, tx, ta, tl, tc⟩ st1 out1 = SS := ⟨_, rfl⟩
  have HBA : Aside0 (badB ⟨tk, tn, tx, ta, tl, tc⟩ st1 out1 = (SS.1.isEmpty || !closesF tx (topF SS.1).text)) := ⟨by unfold badB; rw [HC1.out, hSS]; rfl⟩
  have HOA : Aside0 (oneB ⟨tk, tn, tx, ta, tl, tc⟩ st1 out1 = (SS.1.dropLast, SS.2)) := ⟨by unfold oneB; rw [HC1.out, hSS]; rfl⟩
  have HSS := Aside0.mk hSS
  clear hSS
  go_wp2
  go_loopg [7, 8] (ns1 + 1) (fun f2 t7 t8 wq => ∃ (st' : List Lev) (out' : List Tok) (O' S' : Option Addr) (no' co' ns' cs' : Nat), t7 = .slice O' no' co' ∧ t8 = .slice S' ns' cs' ∧ ns' + 1 = f2 ∧ no' + ns' ≤ no1 + ns1 ∧ Aside0 (RefA w l (some ⟨g, 0, none⟩) b ⟨tk, tn, tx, ta, tl, tc⟩ st' (.slice S' ns' cs') out' (.slice O' no' co') wq ∧ shutF anyL ⟨tk, tn, tx, ta, tl, tc⟩ st' out' = SS))
  case atStart => exact ⟨st1, out1, _, _, _, _, _, _, rfl, rfl, rfl, Nat.le_refl _, ⟨H5.out, HSS.out⟩⟩
  case round =>
    obtain ⟨st', out', O', S', no', co', ns', cs', rfl, rfl, hf2, hle, hB⟩ := hrel
    have HQ := Aside0.mk hB.out.1
    have hsh := hB.out.2
    clear hB HSS H5
    obtain ⟨t0, t1, t2, t3, t4, t5⟩ := HQ.out.cells
    simp only at t0 t1 t2 t3 t4 t5
    cases ns' with
    | zero =>
      have hst := HQ.out.head.nil0
      subst hst
      rw [shutF_nil] at hsh
      subst hsh
      have HRB : Aside0 (r = ([], (i : Int), 7)) := ⟨HBAD.out (by rw [HBA.out]; rfl)⟩
      go_wp2
      go_quiet (fail)
      go_wp2
      apply HRET.out
      exact ⟨HRB.out, (HQ.out.step (bdrew _ _)).head.below⟩
    | succ m =>
      obtain ⟨s0, u, g3, rfl, rfl, p0, p1, p2⟩ := HQ.out.head.topn
      obtain ⟨ub, uc, ux⟩ := u
      simp only at p0 p1 p2
      have hpos : (0 : Int) < ((m + 1 : Nat) : Int) := by omega
      have hpos2 : (0 : Int) < (m : Int) + 1 := by omega
      have hnn0 : (0 : Int) ≤ (m : Int) := by omega
      have hx1 : IntKind.i64.wrap (((m + 1 : Nat) : Int) - 1) = (m : Int) := by rw [IntWalk.i64_in _ (by omega)]; omega
      have hx2 : IntKind.i64.wrap ((m : Int) + 1 - 1) = (m : Int) := by rw [IntWalk.i64_in _ (by omega)]; omega
      have hne : (((m + 1 : Nat) : Int) == 0) = false := by simp; omega
      have hne2 : ((m : Int) + 1 == 0) = false := by simp; omega
      have hmc : (m : Int) ≤ (cs' : Int) := by have := HQ.out.head.cap; omega
      cases ub with
      | false =>
        rw [shutF_stop rfl] at hsh
        subst hsh
        have HPA := Aside0.mk (fun W => pair_any ux tx W)
        have hbb : badB ⟨tk, tn, tx, ta, tl, tc⟩ st1 out1 = !closesF tx ux := by rw [HBA.out, topF_snoc]; simp
        have hob : oneB ⟨tk, tn, tx, ta, tl, tc⟩ st1 out1 = (s0, out') := by rw [HOA.out]; simp
        have HOB := Aside0.mk hob
        clear hob
        obtain ⟨cf, hcf⟩ : ∃ cf, closesF tx ux = cf := ⟨_, rfl⟩
        rw [hcf] at HPA hbb
        have HBB := Aside0.mk hbb
        clear hbb hcf
        cases cf with
        | false =>
          have HRB : Aside0 (r = ([], (i : Int), 7)) := ⟨HBAD.out (by rw [HBB.out]; rfl)⟩
          go_wp2
          go_quiet ((go_at_call 111; exact quiet_left (HPA.out _)))
          go_wp2
          apply HRET.out
          exact ⟨HRB.out, (HQ.out.step (bdrew _ _)).head.below⟩
        | true =>
          go_wp2
          go_quiet ((go_at_call 111; exact quiet_left (HPA.out _)))
          go_wp2
          apply HJ1.out
          exact ⟨_, _, _, _, _, _, rfl, rfl, by omega, ⟨HBB.out, by rw [HOB.out]; exact (HQ.out.step (bdrew _ _)).lower⟩⟩
      | true =>
        rw [shutF_go rfl] at hsh
        have HSH := Aside0.mk hsh
        clear hsh
        obtain rfl : gk = m + 1 + 1 := by omega
        go_wp2_with (first | (go_at_call 109; refine (HVI.out 7 _ HQ.out.head.src).mono ?_; rintro e w5 ⟨rfl, hb5⟩; have H5 := Aside0.mk (HQ.out.step hb5); clear hb5) | (at_builtin; refine wpList_append_own_at _ rfl _ _ 68 rfl w.heap.size 121 i0 _ 6 56 Tryz.underlying68 HI.out HZ0.out HZ1.out HZ2.out rfl (by decide) (.slice O' no' co') no' (flat out') rfl (H5.out.head.outn.alloc _) ⟨w5.heap.size, 0, none⟩ 1 1 [.int .i64 7, .int .i64 0, .string ⟨#[]⟩, .int .i64 ta, .int .i64 tl, .int .i64 tc] rfl rfl (fun j u h => cells_new w5 #[.int .i64 7, .int .i64 0, .string ⟨#[]⟩, .int .i64 ta, .int .i64 tl, .int .i64 tc] 121 j u h) (by simp [Value.oneCell']) (by unfold maxLen; omega) (by omega) (Nat.le_trans H5.out.head.below.size (by simp)) ?_; intro v6 w6 hown' hgrow _ hat; obtain ⟨O6, co6, rfl⟩ := ownsRow_succ hown'; have HP6 := Aside0.mk ((H5.out.alloc _).putn (x := markF 7 ⟨tk, tn, tx, ta, tl, tc⟩) hgrow hown' hat); clear hown' hgrow hat))
        go_roundg (m + 1)
        case measure => omega
        case rel => exact ⟨s0, _, _, _, _, _, m, cs', rfl, rfl, rfl, by omega, ⟨HP6.out.lower, HSH.out⟩⟩
end Go.Proofs.YtfnhjdehlikbaaaGreatDoor.Lx
