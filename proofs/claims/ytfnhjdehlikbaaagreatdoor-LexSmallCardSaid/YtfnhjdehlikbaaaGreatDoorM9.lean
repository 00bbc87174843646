import Derived.Test.YtfnhjdehlikbaaaGreatDoorM7
set_option linter.unusedVariables false
set_option linter.unusedSimpArgs false
namespace Go.Proofs.YtfnhjdehlikbaaaGreatDoor.Lx
open Go.RowKit Go.Proofs.YtfnhjdehlikbaaaGreatDoorW.PrintWords
set_option maxRecDepth 1000000 in
set_option maxHeartbeats 16000000 in
theorem refLay_C {w : World} {l : List Tok} {g b n c i : Nat} {tk tn : Int} {tx : ByteArray} {ta tl tc : Int} {r : List Tok × Int × Int} {i0 j0 : TypeInfo} {wc : World} {Q' : Exit → Act → World → Prop} {J : Act → World → Prop} {u1 u2 u3 u4 u5 u6 u9 u12 u13 u14 u15 u16 u17 u18 u19 u20 u21 u22 u23 u24 u25 u26 u27 u28 u29 u30 u31 u32 u33 u34 u35 u36 u37 u38 u39 u40 u41 u42 u43 u44 u45 u46 u47 u48 u49 u50 u51 u52 u53 u54 u55 u56 u57 u58 u59 u60 u61 u62 u63 u64 u65 u66 u67 u68 u69 u70 u71 u72 u73 u74 u75 u76 u77 u78 u79 u80 u81 u82 u83 u84 u85 u86 u87 u88 u89 u90 u91 u92 u93 u94 u95 u96 u97 u98 u99 u100 u101 u102 u103 u104 u105 u106 u107 u108 u109 u110 u111 u112 u113 u114 u115 u116 u117 u118 u119 u120 u121 u122 u123 u124 u125 u126 u127 u128 u129 u130 u131 u132 u133 u134 u135 u136 u137 u138 u139 u140 u141 u142 u143 u144 u145 u146 u147 u148 u149 u150 u151 u152 u153 u154 u155 u156 u157 u158 u159 u160 u161 u162 u163 u164 u165 u166 u167 u168 u169 u170 u171 u172 u174 u175 u176 u177 u178 u179 u180 u181 u182 u183 u184 u185 u186 u187 u188 u189 u190 u191 u192 u193 u194 u195 u196 u197 u198 u199 u200 u201 u202 u203 u204 u205 u206 u207 u208 u209 u210 u211 u212 u213 u214 u215 u216 u217 u218 u219 u220 u221 u222 u223 u224 u225 u226 u227 u228 u229 u230 u231 u232 u233 u234 u235 u236 u237 u238 u239 u240 u241 u242 u243 u244 u245 u246 u247 u248 u249 : Value}
    (HI : Aside0 (Tryz.prog.info? 121 = some i0)) (HZ0 : Aside0 (i0.zero = some (.agg #[.int .i64 0, .int .i64 0, .string ⟨#[]⟩, .int .i64 0, .int .i64 0, .int .i64 0]))) (HZ1 : Aside0 (i0.size = 6)) (HZ2 : Aside0 (i0.bytes = 56))
    (HJ : Aside0 (Tryz.prog.info? 159 = some j0)) (HY0 : Aside0 (j0.zero = some (.agg #[.bool false, .int .i64 0, .string ⟨#[]⟩]))) (HY1 : Aside0 (j0.size = 3)) (HY2 : Aside0 (j0.bytes = 32))
    (hl : n ≤ 4000) (hi2 : (i : Int) < (n : Int)) (hi0 : (0 : Int) ≤ (i : Int))
    {st2 : List Lev} {out2 : List Tok} {S2 : Option Addr} {no2 ns2 cs2 : Nat} {bo : Bool} {O6 : Nat} {co6 : Nat}
    (hlen : no2 + ns2 ≤ 2 + 4 * i + 1) (H7 : Aside0 (RefA w l (some ⟨g, 0, none⟩) b ⟨tk, tn, tx, ta, tl, tc⟩ st2 (.slice S2 ns2 cs2) (out2 ++ [⟨tk, tn, tx, ta, tl, tc⟩]) (.slice (some ⟨O6, 0, none⟩) (no2 + 1) co6) wc))
    (HJ1 : Aside0 (∀ (x8 x174 x175 x176 x177 x178 x179 : Value) (w' : World), (∃ (S' : Option Addr) (ns' cs' : Nat), x8 = .slice S' ns' cs' ∧ ns' ≤ ns2 + 1 ∧ Aside0 (RefA w l (some ⟨g, 0, none⟩) b ⟨tk, tn, tx, ta, tl, tc⟩ (if bo = true then st2 ++ [⟨false, 0, tx⟩] else st2) (.slice S' ns' cs') (out2 ++ [⟨tk, tn, tx, ta, tl, tc⟩]) (.slice (some ⟨O6, 0, none⟩) (no2 + 1) co6) w') ∧ (bo = false → ns' = ns2)) → J ⟨#[.slice (some ⟨g, 0, none⟩) n c, u1, u2, u3, u4, u5, u6, .slice (some ⟨O6, 0, none⟩) (no2 + 1) co6, x8, u9, .int .i64 (i : Int), .pointer (some ⟨b, 0, none⟩), u12, u13, u14, u15, u16, u17, u18, u19, u20, u21, u22, u23, u24, u25, u26, u27, u28, u29, u30, u31, u32, u33, u34, u35, u36, u37, u38, u39, u40, u41, u42, u43, u44, u45, u46, u47, u48, u49, u50, u51, u52, u53, u54, u55, u56, u57, u58, u59, u60, u61, u62, u63, u64, u65, u66, u67, u68, u69, u70, u71, u72, u73, u74, u75, u76, u77, u78, u79, u80, u81, u82, u83, u84, u85, u86, u87, u88, u89, u90, u91, u92, u93, u94, u95, u96, u97, u98, u99, u100, u101, u102, u103, u104, u105, u106, u107, u108, u109, u110, u111, u112, u113, u114, u115, u116, u117, u118, u119, u120, u121, u122, u123, u124, u125, u126, u127, u128, u129, u130, u131, u132, u133, u134, u135, u136, u137, u138, u139, u140, u141, u142, u143, u144, u145, u146, u147, u148, u149, u150, u151, u152, u153, u154, u155, u156, u157, u158, u159, u160, u161, u162, u163, u164, u165, u166, u167, u168, u169, u170, u171, u172, .bool bo, x174, x175, x176, x177, x178, x179, u180, u181, u182, u183, u184, u185, u186, u187, u188, u189, u190, u191, u192, u193, u194, u195, u196, u197, u198, u199, u200, u201, u202, u203, u204, u205, u206, u207, u208, u209, u210, u211, u212, u213, u214, u215, u216, u217, u218, u219, u220, u221, u222, u223, u224, u225, u226, u227, u228, u229, u230, u231, u232, u233, u234, u235, u236, u237, u238, u239, u240, u241, u242, u243, u244, u245, u246, u247, u248, u249], []⟩ w')) :
    Code.wp Tryz.prog (codeIf 173) (Exit.then J Q') ⟨#[.slice (some ⟨g, 0, none⟩) n c, u1, u2, u3, u4, u5, u6, .slice (some ⟨O6, 0, none⟩) (no2 + 1) co6, .slice S2 ns2 cs2, u9, .int .i64 (i : Int), .pointer (some ⟨b, 0, none⟩), u12, u13, u14, u15, u16, u17, u18, u19, u20, u21, u22, u23, u24, u25, u26, u27, u28, u29, u30, u31, u32, u33, u34, u35, u36, u37, u38, u39, u40, u41, u42, u43, u44, u45, u46, u47, u48, u49, u50, u51, u52, u53, u54, u55, u56, u57, u58, u59, u60, u61, u62, u63, u64, u65, u66, u67, u68, u69, u70, u71, u72, u73, u74, u75, u76, u77, u78, u79, u80, u81, u82, u83, u84, u85, u86, u87, u88, u89, u90, u91, u92, u93, u94, u95, u96, u97, u98, u99, u100, u101, u102, u103, u104, u105, u106, u107, u108, u109, u110, u111, u112, u113, u114, u115, u116, u117, u118, u119, u120, u121, u122, u123, u124, u125, u126, u127, u128, u129, u130, u131, u132, u133, u134, u135, u136, u137, u138, u139, u140, u141, u142, u143, u144, u145, u146, u147, u148, u149, u150, u151, u152, u153, u154, u155, u156, u157, u158, u159, u160, u161, u162, u163, u164, u165, u166, u167, u168, u169, u170, u171, u172, .bool bo, u174, u175, u176, u177, u178, u179, u180, u181, u182, u183, u184, u185, u186, u187, u188, u189, u190, u191, u192, u193, u194, u195, u196, u197, u198, u199, u200, u201, u202, u203, u204, u205, u206, u207, u208, u209, u210, u211, u212, u213, u214, u215, u216, u217, u218, u219, u220, u221, u222, u223, u224, u225, u226, u227, u228, u229, u230, u231, u232, u233, u234, u235, u236, u237, u238, u239, u240, u241, u242, u243, u244, u245, u246, u247, u248, u249], []⟩ wc := by
  conv => arg 2; whnf
  obtain ⟨t0, t1, t2, t3, t4, t5⟩ := H7.out.cells
  simp only at t0 t1 t2 t3 t4 t5
  cases bo with
  | true =>
    go_wp2_with (at_builtin; refine wpList_append_own_at _ rfl _ _ 160 rfl w.heap.size 159 j0 _ 3 32 Tryz.underlying160 HJ.out HY0.out HY1.out HY2.out rfl (by decide) (.slice S2 ns2 cs2) ns2 (flatL st2) rfl (H7.out.head.stackn.alloc _) ⟨wc.heap.size, 0, none⟩ 1 1 [.bool false, .int .i64 0, .string tx] rfl rfl (fun j u h => cells_new wc #[.bool false, .int .i64 0, .string tx] 159 j u h) (by simp [Value.oneCell']) (by unfold maxLen; omega) (by omega) (Nat.le_trans H7.out.head.below.size (by simp)) ?_; intro v8 w8 hown' hgrow _ hat; obtain ⟨S8, c8, rfl⟩ := ownsRow_succ hown'; have HP8 := Aside0.mk ((H7.out.alloc _).pushn (v := ⟨false, 0, tx⟩) hgrow hown' hat); clear hown' hgrow hat)
    apply HJ1.out
    exact ⟨_, _, _, rfl, by omega, HP8, fun h => (by cases h)⟩
  | false =>
    go_wp2
    apply HJ1.out
    exact ⟨_, _, _, rfl, by omega, H7, fun _ => rfl⟩
set_option maxRecDepth 1000000 in
set_option maxHeartbeats 16000000 in
theorem refLay_W {w : World} {l : List Tok} {g b n c i : Nat} {tk tn : Int} {tx : ByteArray} {ta tl tc : Int} {r : List Tok × Int × Int} {i0 j0 : TypeInfo} {wc : World} {Q' : Exit → Act → World → Prop} {J : Act → World → Prop} {u1 u2 u3 u4 u5 u6 u12 u13 u14 u15 u16 u17 u18 u19 u20 u21 u22 u23 u24 u25 u26 u27 u28 u29 u30 u31 u32 u33 u34 u35 u36 u37 u38 u39 u40 u41 u42 u43 u44 u45 u46 u47 u48 u49 u50 u51 u52 u53 u54 u55 u56 u57 u58 u59 u60 u61 u62 u63 u64 u65 u66 u67 u68 u69 u70 u71 u72 u73 u74 u75 u76 u77 u78 u79 u80 u81 u82 u83 u84 u85 u86 u87 u88 u89 u90 u91 u92 u93 u94 u95 u96 u97 u98 u99 u100 u101 u102 u103 u104 u105 u106 u107 u108 u109 u110 u111 u112 u113 u114 u115 u116 u117 u118 u119 u120 u121 u122 u123 u124 u125 u126 u127 u128 u129 u130 u131 u132 u133 u134 u135 u136 u137 u138 u139 u140 u141 u142 u143 u144 u145 u146 u147 u148 u149 u150 u151 u152 u153 u154 u155 u156 u157 u158 u159 u160 u161 u162 u163 u164 u165 u166 u167 u168 u169 u170 u171 u172 u173 u174 u175 u176 u177 u178 u179 u180 u181 u183 u184 u185 u186 u187 u188 u189 u190 u191 u192 u193 u194 u195 u196 u197 u198 u199 u200 u201 u202 u203 u204 u205 u206 u207 u208 u209 u210 u211 u212 u213 u214 u215 u216 u217 u218 u219 u220 u221 u222 u223 u224 u225 u226 u227 u228 u229 u230 u231 u232 u233 u234 u235 u236 u237 u238 u239 u240 u241 u242 u243 u244 u245 u246 u247 u248 u249 : Value}
    (HI : Aside0 (Tryz.prog.info? 121 = some i0)) (HZ0 : Aside0 (i0.zero = some (.agg #[.int .i64 0, .int .i64 0, .string ⟨#[]⟩, .int .i64 0, .int .i64 0, .int .i64 0]))) (HZ1 : Aside0 (i0.size = 6)) (HZ2 : Aside0 (i0.bytes = 56))
    (HJ : Aside0 (Tryz.prog.info? 159 = some j0)) (HY0 : Aside0 (j0.zero = some (.agg #[.bool false, .int .i64 0, .string ⟨#[]⟩]))) (HY1 : Aside0 (j0.size = 3)) (HY2 : Aside0 (j0.bytes = 32))
    (hl : n ≤ 4000) (hi2 : (i : Int) < (n : Int)) (hi0 : (0 : Int) ≤ (i : Int))
    {st2 : List Lev} {out2 : List Tok} {S3 : Option Addr} {no2 ns3 cs3 : Nat} {O6 : Nat} {co6 : Nat} {nk nn : Int} {nt : ByteArray} {na nl nc : Int}
    (hlen : no2 + ns3 ≤ 2 + 4 * i + 1) (HA4 : Aside0 (RefA w l (some ⟨g, 0, none⟩) b ⟨tk, tn, tx, ta, tl, tc⟩ st2 (.slice S3 ns3 cs3) (out2 ++ [⟨tk, tn, tx, ta, tl, tc⟩]) (.slice (some ⟨O6, 0, none⟩) (no2 + 1) co6) wc))
    (HVN : Aside0 (∀ (k : Int) W, SrcC (some ⟨g, 0, none⟩) l W → Calls Tryz.prog 109 #[.int .i64 k, .slice (some ⟨g, 0, none⟩) n c, .int .i64 ((i : Int) + 1)] W fun e w' => e = .returned (.agg #[.int .i64 k, .int .i64 0, .string ⟨#[]⟩, .int .i64 na, .int .i64 nl, .int .i64 nc]) ∧ Below W.heap.size W w'))
    (HN : Aside0 (l.length = n)) (HBASE3 : Aside0 (Base st2)) (HOP : Aside0 (opening ⟨tk, tn, tx, ta, tl, tc⟩ = false)) (HWI : Aside0 (withs ⟨tk, tn, tx, ta, tl, tc⟩ = true))
    (HQ5 : Aside0 (i + 1 < n → ∀ {st' : List Lev} {vs' : Value} {out' : List Tok} {vo' : Value} (W : World), RefH w l (some ⟨g, 0, none⟩) st' vs' out' vo' W → W.cell? ⟨g, (i + 1) * 6 + 5, none⟩ = some (.int .i64 nc)))
    (HJ1 : Aside0 (∀ (x7 x8 x9 x183 x184 x185 x186 x187 x188 x189 x190 x191 x192 x193 x194 x195 x196 x197 x198 x199 x200 x201 x202 x203 x204 x205 x206 x207 x208 x209 x210 x211 x212 x213 x214 x215 x216 x217 x218 x219 x220 x221 x222 : Value) (w' : World), (∃ (O' S' : Option Addr) (no' co' ns' cs' : Nat), x7 = .slice O' no' co' ∧ x8 = .slice S' ns' cs' ∧ x9 = .bool (oneC ⟨tk, tn, tx, ta, tl, tc⟩ ⟨nk, nn, nt, na, nl, nc⟩ (decide (i + 1 < l.length)) st2 out2).2 ∧ no' + ns' ≤ no2 + ns3 + 3 ∧ Aside0 (RefA w l (some ⟨g, 0, none⟩) b ⟨tk, tn, tx, ta, tl, tc⟩ (oneC ⟨tk, tn, tx, ta, tl, tc⟩ ⟨nk, nn, nt, na, nl, nc⟩ (decide (i + 1 < l.length)) st2 out2).1.1 (.slice S' ns' cs') (oneC ⟨tk, tn, tx, ta, tl, tc⟩ ⟨nk, nn, nt, na, nl, nc⟩ (decide (i + 1 < l.length)) st2 out2).1.2 (.slice O' no' co') w')) → J ⟨#[.slice (some ⟨g, 0, none⟩) n c, u1, u2, u3, u4, u5, u6, x7, x8, x9, .int .i64 (i : Int), .pointer (some ⟨b, 0, none⟩), u12, u13, u14, u15, u16, u17, u18, u19, u20, u21, u22, u23, u24, u25, u26, u27, u28, u29, u30, u31, u32, u33, u34, u35, u36, u37, u38, u39, u40, u41, u42, u43, u44, u45, u46, u47, u48, u49, u50, u51, u52, u53, u54, u55, u56, u57, u58, u59, u60, u61, u62, u63, u64, u65, u66, u67, u68, u69, u70, u71, u72, u73, u74, u75, u76, u77, u78, u79, u80, u81, u82, u83, u84, u85, u86, u87, u88, u89, u90, u91, u92, u93, u94, u95, u96, u97, u98, u99, u100, u101, u102, u103, u104, u105, u106, u107, u108, u109, u110, u111, u112, u113, u114, u115, u116, u117, u118, u119, u120, u121, u122, u123, u124, u125, u126, u127, u128, u129, u130, u131, u132, u133, u134, u135, u136, u137, u138, u139, u140, u141, u142, u143, u144, u145, u146, u147, u148, u149, u150, u151, u152, u153, u154, u155, u156, u157, u158, u159, u160, u161, u162, u163, u164, u165, u166, u167, u168, u169, u170, u171, u172, u173, u174, u175, u176, u177, u178, u179, u180, u181, .bool true, x183, x184, x185, x186, x187, x188, x189, x190, x191, x192, x193, x194, x195, x196, x197, x198, x199, x200, x201, x202, x203, x204, x205, x206, x207, x208, x209, x210, x211, x212, x213, x214, x215, x216, x217, x218, x219, x220, x221, x222, u223, u224, u225, u226, u227, u228, u229, u230, u231, u232, u233, u234, u235, u236, u237, u238, u239, u240, u241, u242, u243, u244, u245, u246, u247, u248, u249], []⟩ w')) :
    Code.wp Tryz.prog (codeIf 182) (Exit.then J Q') ⟨#[.slice (some ⟨g, 0, none⟩) n c, u1, u2, u3, u4, u5, u6, .slice (some ⟨O6, 0, none⟩) (no2 + 1) co6, .slice S3 ns3 cs3, .bool false, .int .i64 (i : Int), .pointer (some ⟨b, 0, none⟩), u12, u13, u14, u15, u16, u17, u18, u19, u20, u21, u22, u23, u24, u25, u26, u27, u28, u29, u30, u31, u32, u33, u34, u35, u36, u37, u38, u39, u40, u41, u42, u43, u44, u45, u46, u47, u48, u49, u50, u51, u52, u53, u54, u55, u56, u57, u58, u59, u60, u61, u62, u63, u64, u65, u66, u67, u68, u69, u70, u71, u72, u73, u74, u75, u76, u77, u78, u79, u80, u81, u82, u83, u84, u85, u86, u87, u88, u89, u90, u91, u92, u93, u94, u95, u96, u97, u98, u99, u100, u101, u102, u103, u104, u105, u106, u107, u108, u109, u110, u111, u112, u113, u114, u115, u116, u117, u118, u119, u120, u121, u122, u123, u124, u125, u126, u127, u128, u129, u130, u131, u132, u133, u134, u135, u136, u137, u138, u139, u140, u141, u142, u143, u144, u145, u146, u147, u148, u149, u150, u151, u152, u153, u154, u155, u156, u157, u158, u159, u160, u161, u162, u163, u164, u165, u166, u167, u168, u169, u170, u171, u172, u173, u174, u175, u176, u177, u178, u179, u180, u181, .bool true, u183, u184, u185, u186, u187, u188, u189, u190, u191, u192, u193, u194, u195, u196, u197, u198, u199, u200, u201, u202, u203, u204, u205, u206, u207, u208, u209, u210, u211, u212, u213, u214, u215, u216, u217, u218, u219, u220, u221, u222, u223, u224, u225, u226, u227, u228, u229, u230, u231, u232, u233, u234, u235, u236, u237, u238, u239, u240, u241, u242, u243, u244, u245, u246, u247, u248, u249], []⟩ wc := by
  conv => arg 2; whnf
  have HHI0 := fun W o v (h : RefH w l (some ⟨g, 0, none⟩) st2 (.slice S3 ns3 cs3) o v W) => highest_at h HBASE3.out (by omega)
  obtain ⟨hi9, hhi⟩ : ∃ hi9, (lastF st2).col = hi9 := ⟨_, rfl⟩
  rw [hhi] at HHI0
  have HHI := Aside0.mk HHI0
  clear HHI0
  have hs1 : IntKind.i64.wrap ((i : Int) + 1) = (i : Int) + 1 := IntWalk.i64_in _ (by omega)
  have hopn : opens ⟨nk, nn, nt, na, nl, nc⟩ (decide (i + 1 < l.length)) st2 = (decide (i + 1 < n) && decide (nc > hi9)) := by
    unfold opens
    rw [HN.out, hhi]
  have HOPN := Aside0.mk hopn
  clear hopn hhi
  go_upto_region 35 with (first | (go_at_call 109; refine (HVN.out 5 _ HA4.out.head.src).mono ?_; rintro e w8 ⟨rfl, hb8⟩; have H8 := Aside0.mk (HA4.out.step hb8); clear hb8) | (at_builtin; refine wpList_append_own_at _ rfl _ _ 68 rfl w.heap.size 121 i0 _ 6 56 Tryz.underlying68 HI.out HZ0.out HZ1.out HZ2.out rfl (by decide) (.slice (some ⟨O6, 0, none⟩) (no2 + 1) co6) (no2 + 1) (flat (out2 ++ [⟨tk, tn, tx, ta, tl, tc⟩])) rfl (H8.out.head.outn.alloc _) ⟨w8.heap.size, 0, none⟩ 1 1 [.int .i64 5, .int .i64 0, .string ⟨#[]⟩, .int .i64 na, .int .i64 nl, .int .i64 nc] rfl rfl (fun j u h => cells_new w8 #[.int .i64 5, .int .i64 0, .string ⟨#[]⟩, .int .i64 na, .int .i64 nl, .int .i64 nc] 121 j u h) (by simp [Value.oneCell']) (by unfold maxLen; omega) (by omega) (Nat.le_trans H8.out.head.below.size (by simp)) ?_; intro v9 w9 hown' hgrow _ hat; obtain ⟨O9, co9, rfl⟩ := ownsRow_succ hown'; have HP9 := Aside0.mk ((H8.out.alloc _).putn (x := markF 5 ⟨nk, nn, nt, na, nl, nc⟩) hgrow hown' hat); clear hown' hgrow hat))
  clear HA4 H8
  go_cut [205] from 183 to 222 (fun t205 wd => t205 = .bool (decide (i + 1 < n) && decide (nc > hi9)) ∧ Aside0 (RefA w l (some ⟨g, 0, none⟩) b ⟨tk, tn, tx, ta, tl, tc⟩ st2 (.slice S3 ns3 cs3) (out2 ++ [⟨tk, tn, tx, ta, tl, tc⟩] ++ [markF 5 ⟨nk, nn, nt, na, nl, nc⟩]) (.slice (some ⟨O9, 0, none⟩) (no2 + 1 + 1) co9) wd))
  case first =>
    by_cases hm : i + 1 < n
    · have hq := HQ5.out hm _ HP9.out.head
      have hm2 : (i : Int) + 1 < (n : Int) := by omega
      have hm0 : (0 : Int) ≤ (i : Int) + 1 := by omega
      by_cases hgt : nc > hi9
      · have HB : Aside0 ((decide (i + 1 < n) && decide (nc > hi9)) = true) := ⟨by rw [decide_eq_true hm, decide_eq_true hgt]; rfl⟩
        go_quiet ((go_at_call 113; exact quiet_left (HHI.out _ _ _ (HP9.out.step (bdrew _ _)).head)))
        go_wp2
        go_meet
        case rel => exact ⟨by rw [HB.out], ⟨HP9.out.step (bdrew _ _)⟩⟩
      · have HB : Aside0 ((decide (i + 1 < n) && decide (nc > hi9)) = false) := ⟨by rw [decide_eq_false hgt, Bool.and_false]⟩
        go_quiet ((go_at_call 113; exact quiet_left (HHI.out _ _ _ (HP9.out.step (bdrew _ _)).head)))
        go_wp2
        go_meet
        case rel => exact ⟨by rw [HB.out], ⟨HP9.out.step (bdrew _ _)⟩⟩
    · have hm2 : ¬ (i : Int) + 1 < (n : Int) := by omega
      have hm3 : decide ((i : Int) + 1 < (n : Int)) = false := decide_eq_false hm2
      have HB : Aside0 ((decide (i + 1 < n) && decide (nc > hi9)) = false) := ⟨by rw [decide_eq_false hm]; rfl⟩
      go_quiet (fail)
      go_wp2
      go_meet
      case rel => exact ⟨by rw [HB.out], ⟨HP9.out.step (bdrew _ _)⟩⟩
  case rest =>
    obtain ⟨rfl, HZ⟩ := hcut
    clear HP9
    cases hgo : (decide (i + 1 < n) && decide (nc > hi9)) with
    | true =>
      have HC : Aside0 (oneC ⟨tk, tn, tx, ta, tl, tc⟩ ⟨nk, nn, nt, na, nl, nc⟩ (decide (i + 1 < l.length)) st2 out2 = ((st2 ++ [⟨true, nc, ⟨#[]⟩⟩], out2 ++ [⟨tk, tn, tx, ta, tl, tc⟩] ++ [markF 5 ⟨nk, nn, nt, na, nl, nc⟩]), true)) := ⟨oneC_with HOP.out HWI.out (by rw [HOPN.out]; exact hgo)⟩
      have hm : i + 1 < n := by
        simp only [Bool.and_eq_true, decide_eq_true_eq] at hgo
        exact hgo.1
      have hq := HQ5.out hm _ HZ.out.head
      have hm2 : (i : Int) + 1 < (n : Int) := by omega
      have hm0 : (0 : Int) ≤ (i : Int) + 1 := by omega
      clear hgo
      go_wp2_with (at_builtin; refine wpList_append_own_at _ rfl _ _ 160 rfl w.heap.size 159 j0 _ 3 32 Tryz.underlying160 HJ.out HY0.out HY1.out HY2.out rfl (by decide) (.slice S3 ns3 cs3) ns3 (flatL st2) rfl (HZ.out.head.stackn.alloc _) ⟨wc.heap.size, 0, none⟩ 1 1 [.bool true, .int .i64 nc, .string ⟨#[]⟩] rfl rfl (fun j u h => cells_new wc #[.bool true, .int .i64 nc, .string ⟨#[]⟩] 159 j u h) (by simp [Value.oneCell']) (by unfold maxLen; omega) (by omega) (Nat.le_trans HZ.out.head.below.size (by simp)) ?_; intro v10 w10 hown' hgrow _ hat; obtain ⟨S10, c10, rfl⟩ := ownsRow_succ hown'; have HP10 := Aside0.mk ((HZ.out.alloc _).pushn (v := ⟨true, nc, ⟨#[]⟩⟩) hgrow hown' hat); clear hown' hgrow hat)
      apply HJ1.out
      exact ⟨_, _, _, _, _, _, rfl, rfl, by rw [HC.out], by omega, ⟨by rw [HC.out]; exact HP10.out⟩⟩
    | false =>
      have HC : Aside0 (oneC ⟨tk, tn, tx, ta, tl, tc⟩ ⟨nk, nn, nt, na, nl, nc⟩ (decide (i + 1 < l.length)) st2 out2 = ((st2, out2 ++ [⟨tk, tn, tx, ta, tl, tc⟩] ++ [markF 5 ⟨nk, nn, nt, na, nl, nc⟩] ++ [markF 7 ⟨nk, nn, nt, na, nl, nc⟩]), false)) := ⟨oneC_shut HOP.out HWI.out (by rw [HOPN.out]; exact hgo)⟩
      clear hgo
      go_wp2_with (first | (go_at_call 109; refine (HVN.out 7 _ HZ.out.head.src).mono ?_; rintro e w10 ⟨rfl, hb10⟩; have H10 := Aside0.mk (HZ.out.step hb10); clear hb10) | (at_builtin; refine wpList_append_own_at _ rfl _ _ 68 rfl w.heap.size 121 i0 _ 6 56 Tryz.underlying68 HI.out HZ0.out HZ1.out HZ2.out rfl (by decide) (.slice (some ⟨O9, 0, none⟩) (no2 + 1 + 1) co9) (no2 + 1 + 1) (flat (out2 ++ [⟨tk, tn, tx, ta, tl, tc⟩] ++ [markF 5 ⟨nk, nn, nt, na, nl, nc⟩])) rfl (H10.out.head.outn.alloc _) ⟨w10.heap.size, 0, none⟩ 1 1 [.int .i64 7, .int .i64 0, .string ⟨#[]⟩, .int .i64 na, .int .i64 nl, .int .i64 nc] rfl rfl (fun j u h => cells_new w10 #[.int .i64 7, .int .i64 0, .string ⟨#[]⟩, .int .i64 na, .int .i64 nl, .int .i64 nc] 121 j u h) (by simp [Value.oneCell']) (by unfold maxLen; omega) (by omega) (Nat.le_trans H10.out.head.below.size (by simp)) ?_; intro v11 w11 hown' hgrow _ hat; obtain ⟨O11, co11, rfl⟩ := ownsRow_succ hown'; have HP11 := Aside0.mk ((H10.out.alloc _).putn (x := markF 7 ⟨nk, nn, nt, na, nl, nc⟩) hgrow hown' hat); clear hown' hgrow hat))
      apply HJ1.out
      exact ⟨_, _, _, _, _, _, rfl, rfl, by rw [HC.out], by omega, ⟨by rw [HC.out]; exact HP11.out⟩⟩
end Go.Proofs.YtfnhjdehlikbaaaGreatDoor.Lx
