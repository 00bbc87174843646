import Derived.Test.YtfnhjdehlikbaaaGreatDoorMH
import Derived.Test.YtfnhjdehlikbaaaGreatDoorMI
import Derived.Test.YtfnhjdehlikbaaaGreatDoorMG
set_option linter.unusedVariables false
set_option linter.unusedSimpArgs false
namespace Go.Proofs.YtfnhjdehlikbaaaGreatDoor.Lx
open Go.RowKit Go.Proofs.YtfnhjdehlikbaaaGreatDoorW.PrintWords
theorem nil_Z {K : World → Prop} (HE : Env K) (W : World) (hk : K W) : Calls Tryz.prog 38 #[.slice none 0 0] W fun e w' => e = .returned (.bool true) ∧ Below W.heap.size W w' :=
  HE.lays [] none 0 W hk (fun i t h => by simp at h) (Nat.le_refl 0) (fun _ => ⟨rfl, rfl⟩)
set_option maxRecDepth 1000000 in
set_option maxHeartbeats 64000000 in
theorem lawSmall_go {K : World → Prop} (HE : Aside0 (Env K)) {F T : ByteArray → List Tok × Int × Int} (HE2 : Aside0 (Env2 K F T)) (HA : Aside0 (∀ z, (z = 3999 ∨ z = 4000 ∨ z = 4001) → z ≤ 4000 → ∃ m a m2 b, F (repF ⟨#[97, 32]⟩ z) = (m, a, 0) ∧ T (repF ⟨#[97, 32]⟩ z) = (m2, b, 0))) (HA1 : Aside0 (∃ m m2, F (repF ⟨#[97, 32]⟩ 4001) = (m, 8000, 2) ∧ T (repF ⟨#[97, 32]⟩ 4001) = (m2, 8000, 2)))
    (HW : Aside0 (∀ s ∈ wordsZ, 1 ≤ (F s).1.length)) (w : World) (HK : Aside0 (K w)) :
    Calls Tryz.prog 11 #[] w fun e w' => e = .returned (.bool true) ∧ Below w.heap.size w w' := by
  have HB := Aside0.mk (Below.refl w.heap.size w)
  have HRG := Aside0.mk (fun W => HE2.out.refRaw ⟨#[102, 32, 61, 32, 109, 97, 116, 99, 104, 32, 120, 32, 119, 105, 116, 104, 10, 32, 32, 97, 32, 45, 62, 32, 49, 50, 10]⟩ W (by show 27 ≤ 70000; omega))
  have hsh := HE2.out.short ⟨#[102, 32, 61, 32, 109, 97, 116, 99, 104, 32, 120, 32, 119, 105, 116, 104, 10, 32, 32, 97, 32, 45, 62, 32, 49, 50, 10]⟩
  generalize F ⟨#[102, 32, 61, 32, 109, 97, 116, 99, 104, 32, 120, 32, 119, 105, 116, 104, 10, 32, 32, 97, 32, 45, 62, 32, 49, 50, 10]⟩ = RG at HRG hsh
  obtain ⟨lG, aG, eG⟩ := RG
  simp only at HRG hsh
  obtain ⟨nG, hnG⟩ : ∃ nG, lG.length = nG := ⟨_, rfl⟩
  rw [hnG] at HRG hsh
  have HNG := Aside0.mk hnG
  clear hnG
  have hzxf : ByteArray.size (⟨#[32]⟩) = 1 := by first | rfl | (simp only [ByteArray.size_append]; rfl)
  obtain ⟨xf, -, hxf, HRa⟩ := rep_to HE.out (⟨#[32]⟩) 15 15 (by omega) (by omega) (by rw [hzxf]; omega)
  have hxfs : xf.size ≤ 15 := by rw [hxf, hzxf]; omega
  clear hxf hzxf
  have hzfar : ByteArray.size (⟨#[102]⟩ ++ xf) = (1 + xf.size) := by first | rfl | (simp only [ByteArray.size_append]; rfl)
  obtain ⟨far, -, hfar, HRb⟩ := rep_to HE.out (⟨#[102]⟩ ++ xf) 4000 4000 (by omega) (by omega) (by rw [hzfar]; omega)
  have hfars : far.size ≤ 64000 := by rw [hfar, hzfar]; omega
  clear hfar hzfar
  have hzxl : ByteArray.size (⟨#[102, 10]⟩) = 2 := by first | rfl | (simp only [ByteArray.size_append]; rfl)
  obtain ⟨xl, -, hxl, HRc⟩ := rep_to HE.out (⟨#[102, 10]⟩) 4000 4000 (by omega) (by omega) (by rw [hzxl]; omega)
  have hxls : xl.size ≤ 8000 := by rw [hxl, hzxl]; omega
  clear hxl hzxl
  have hzxx : ByteArray.size (⟨#[120]⟩) = 1 := by first | rfl | (simp only [ByteArray.size_append]; rfl)
  obtain ⟨xx, -, hxx, HRd⟩ := rep_to HE.out (⟨#[120]⟩) 56 56 (by omega) (by omega) (by rw [hzxx]; omega)
  have hxxs : xx.size ≤ 56 := by rw [hxx, hzxx]; omega
  clear hxx hzxx
  have hzxm : ByteArray.size (⟨#[45, 45, 32]⟩ ++ xx ++ ⟨#[10]⟩) = (3 + xx.size + 1) := by first | rfl | (simp only [ByteArray.size_append]; rfl)
  obtain ⟨xm, -, hxm, HRe⟩ := rep_to HE.out (⟨#[45, 45, 32]⟩ ++ xx ++ ⟨#[10]⟩) 900 900 (by omega) (by omega) (by rw [hzxm]; omega)
  have hxms : xm.size ≤ 54000 := by rw [hxm, hzxm]; omega
  clear hxm hzxm
  have hzlong : ByteArray.size (⟨#[32]⟩) = 1 := by first | rfl | (simp only [ByteArray.size_append]; rfl)
  obtain ⟨long, -, hlong, HRf⟩ := rep_to HE.out (⟨#[32]⟩) 65536 65536 (by omega) (by omega) (by rw [hzlong]; omega)
  have hlongs : long.size ≤ 65536 := by rw [hlong, hzlong]; omega
  clear hlong hzlong
  go_enter Tryz.func11, Tryz.ntmps11
  go_wp2
  refine wp_sameZ (c' := codeLoop 0) (by kernel_rfl) ?_
  refine sm_0 HE (n := 32) (by omega) ⟨HE.out.on _ _ HK.out (HB.out.alloc HB.out.size _)⟩ ⟨?_⟩ ⟨fun x0 x3 x5 x7 x54 x55 x56 x57 x58 x59 x60 x61 x62 x63 x64 x65 x66 x67 x68 x69 x70 x71 x72 x73 x74 x75 x76 x77 x78 x79 x80 x81 x82 x83 x84 x85 x86 x87 x88 x89 x90 x91 x92 x93 x94 x95 x96 x97 x98 x99 x100 x101 x102 x103 W0 hb => ?_⟩
  · refine strsZ_new _ _ _ _ _ (fun j hj => ?_)
    have h9 : j = 0 ∨ j = 1 ∨ j = 2 ∨ j = 3 ∨ j = 4 ∨ j = 5 ∨ j = 6 ∨ j = 7 ∨ j = 8 ∨ j = 9 ∨ j = 10 ∨ j = 11 ∨ j = 12 ∨ j = 13 ∨ j = 14 ∨ j = 15 ∨ j = 16 ∨ j = 17 ∨ j = 18 ∨ j = 19 ∨ j = 20 ∨ j = 21 ∨ j = 22 ∨ j = 23 ∨ j = 24 ∨ j = 25 ∨ j = 26 ∨ j = 27 ∨ j = 28 ∨ j = 29 ∨ j = 30 ∨ j = 31 := by omega
    rcases h9 with rfl | rfl | rfl | rfl | rfl | rfl | rfl | rfl | rfl | rfl | rfl | rfl | rfl | rfl | rfl | rfl | rfl | rfl | rfl | rfl | rfl | rfl | rfl | rfl | rfl | rfl | rfl | rfl | rfl | rfl | rfl | rfl <;> exact ⟨_, by (try simp [size_mkZ]), rfl⟩
  have H0 := Aside0.mk (bthen (HB.out.alloc HB.out.size _) hb)
  clear hb
  go_wp2
  refine wp_sameZ (c' := codeLoop 6) (by kernel_rfl) ?_
  refine sm_6 HE (by show 61 ≤ 100; omega) ⟨HE.out.on _ _ HK.out H0.out⟩ ⟨fun x0 x9 x10 x11 x106 x107 x108 x109 x110 x111 x112 x113 x114 x115 x116 x117 x118 x119 x120 x121 x122 x123 x124 x125 x126 x127 x128 x129 x130 x131 x132 x133 x134 x135 x136 x137 x138 x139 x140 x141 x142 x143 x144 x145 x146 x147 x148 x149 x150 x151 x152 x153 x154 x155 x156 x157 x158 x159 x160 x161 x162 x163 x164 x165 x166 x167 x168 x169 x170 x171 x172 x173 x174 x175 x176 x177 x178 x179 x180 x181 x182 x183 x184 x185 x186 x187 x188 x189 x190 x191 x192 x193 x194 x195 W6 hb => ?_⟩
  have H1 := Aside0.mk (bthen H0.out hb)
  clear hb
  go_wp2
  refine wp_sameZ (c' := codeLoop 10) (by kernel_rfl) ?_
  refine sm_10 HE ⟨HE.out.on _ _ HK.out (H1.out.alloc H1.out.size _)⟩ ⟨?_⟩ ⟨fun x0 x13 x14 x16 x198 x199 x200 x201 x202 x203 x204 x205 x206 x207 x208 x209 x210 x211 x212 x213 x214 x215 x216 x217 x218 x219 x220 x221 x222 x223 x224 x225 x226 x227 x228 x229 x230 x231 x232 x233 x234 x235 x236 x237 x238 x239 x240 x241 x242 x243 x244 x245 x246 x247 x248 x249 W10 hb => ?_⟩
  · refine nats_new _ _ _ _ _ (fun j hj => ?_)
    have h9 : j = 0 ∨ j = 1 ∨ j = 2 ∨ j = 3 ∨ j = 4 ∨ j = 5 := by omega
    rcases h9 with rfl | rfl | rfl | rfl | rfl | rfl <;> exact ⟨_, by first | exact (show 1 ≤ 30 by omega) | exact (show 2 ≤ 30 by omega) | exact (show 9 ≤ 30 by omega) | exact (show 10 ≤ 30 by omega) | exact (show 11 ≤ 30 by omega) | exact (show 30 ≤ 30 by omega), rfl⟩
  have H2 := Aside0.mk (bthen (H1.out.alloc H1.out.size _) hb)
  clear hb
  go_wp2
  refine wp_sameZ (c' := codeLoop 14) (by kernel_rfl) ?_
  refine sm_14 HE ⟨HE.out.on _ _ HK.out (H2.out.alloc H2.out.size _)⟩ ⟨?_⟩ ⟨fun x0 x18 x252 x253 x254 x255 x256 x257 x258 x259 x260 x261 x262 x263 x264 x265 x266 x267 x268 x269 x270 x271 x272 x273 x274 x275 x276 x277 x278 x279 x280 x281 x282 x283 x284 W14 hb => ?_⟩
  · refine nats_new _ _ _ _ _ (fun j hj => ?_)
    have h9 : j = 0 ∨ j = 1 ∨ j = 2 ∨ j = 3 ∨ j = 4 ∨ j = 5 ∨ j = 6 := by omega
    rcases h9 with rfl | rfl | rfl | rfl | rfl | rfl | rfl <;> exact ⟨_, by first | exact (show 28 ≤ 61 by omega) | exact (show 29 ≤ 61 by omega) | exact (show 30 ≤ 61 by omega) | exact (show 58 ≤ 61 by omega) | exact (show 59 ≤ 61 by omega) | exact (show 60 ≤ 61 by omega) | exact (show 61 ≤ 61 by omega), rfl⟩
  have H3 := Aside0.mk (bthen (H2.out.alloc H2.out.size _) hb)
  clear hb
  go_wp2
  refine wp_sameZ (c' := codeLoop 16) (by kernel_rfl) ?_
  refine sm_16 HE HE2 ⟨HE.out.on _ _ HK.out (H3.out.alloc H3.out.size _)⟩ ⟨?_⟩ HA HA1 ⟨fun x0 x20 x21 x22 x23 x24 x25 x26 x27 x28 x29 x30 x287 x288 x289 x290 x291 x292 x293 x294 x295 x296 x297 x298 x299 x300 x301 x302 x303 x304 x305 x306 x307 x308 x309 x310 x311 x312 x313 x314 x315 x316 x317 x318 x319 x320 x321 x322 x323 x324 x325 x326 x327 x328 x329 x330 x331 x332 x333 x334 x335 x336 x337 x338 x339 x340 x341 x342 x343 x344 x345 x346 x347 x348 x349 x350 x351 x352 x353 x354 W16 hb => ?_⟩
  · refine nats_new _ _ _ _ _ (fun j hj => ?_)
    have h9 : j = 0 ∨ j = 1 ∨ j = 2 := by omega
    rcases h9 with rfl | rfl | rfl <;> first | exact ⟨3999, .inl rfl, rfl⟩ | exact ⟨4000, .inr (.inl rfl), rfl⟩ | exact ⟨4001, .inr (.inr rfl), rfl⟩
  have H4 := Aside0.mk (bthen (H3.out.alloc H3.out.size _) hb)
  clear hb
  go_wp2_with (go_at_call 40; (with_reducible refine (HRG.out _).mono ?_); rintro e v1 ⟨AG, cG, rfl, hs, hb⟩; have HSG := Aside0.mk hs; have H5 := Aside0.mk (bthen H4.out hb); clear hs hb)
  refine wp_sameZ (c' := codeLoop 18) (by kernel_rfl) ?_
  refine sm_18 HE HE2 hsh HNG ⟨HE.out.on _ _ HK.out H5.out⟩ HSG ⟨fun x0 x34 x36 x37 x38 x40 x41 x362 x363 x364 x365 x366 x367 x368 x369 x370 x371 x372 x373 x374 x375 x376 x377 x378 x379 x380 x381 x382 x383 x384 x385 x386 x387 x388 x389 x390 x391 x392 x393 x394 x395 x396 x397 x398 x399 x400 x401 x402 x403 x404 x405 x406 x407 x408 x409 x410 x411 x412 x413 x414 x415 x416 x417 x418 x419 x420 x421 x422 x423 x424 x425 x426 x427 x428 x429 x430 x431 x432 x433 x434 x435 x436 x437 x438 x439 W18 hb => ?_⟩
  have H6 := Aside0.mk (bthen H5.out hb)
  clear hb
  go_wp2
  refine wp_sameZ (c' := codeLoop 26) (by kernel_rfl) ?_
  refine sm_26 HE HE2 ⟨HE.out.on _ _ HK.out (H6.out.alloc H6.out.size _)⟩ ⟨?_⟩ ⟨fun x0 x43 x44 x45 x46 x47 x450 x451 x452 x453 x454 x455 x456 x457 x458 x459 x460 x461 x462 x463 x464 x465 x466 x467 x468 x469 x470 x471 x472 x473 x474 x475 x476 x477 x478 x479 x480 x481 x482 x483 x484 x485 x486 x487 x488 x489 x490 x491 x492 x493 W26 hb => ?_⟩
  · refine pairs_new _ _ _ _ _ (fun j hj => ?_)
    have h9 : j = 0 ∨ j = 1 ∨ j = 2 ∨ j = 3 ∨ j = 4 ∨ j = 5 ∨ j = 6 ∨ j = 7 := by omega
    rcases h9 with rfl | rfl | rfl | rfl | rfl | rfl | rfl | rfl <;> exact ⟨_, _, by decide, by decide, HW.out _ (by simp [wordsZ]), HW.out _ (by simp [wordsZ]), rfl, rfl⟩
  have H7 := Aside0.mk (bthen (H6.out.alloc H6.out.size _) hb)
  clear hb
  go_wp2_with (first | (go_at_call 26; (with_reducible refine (HRa.out _).mono ?_); rintro e z0 ⟨rfl, hb⟩; have G0 := Aside0.mk (bthen H7.out hb); clear hb) | (go_at_call 26; (with_reducible refine (HRb.out _).mono ?_); rintro e z1 ⟨rfl, hb⟩; have G1 := Aside0.mk (bthen G0.out hb); clear hb) | (go_at_call 26; (with_reducible refine (HRc.out _).mono ?_); rintro e z2 ⟨rfl, hb⟩; have G2 := Aside0.mk (bthen G1.out hb); clear hb) | (go_at_call 26; (with_reducible refine (HRd.out _).mono ?_); rintro e z3 ⟨rfl, hb⟩; have G3 := Aside0.mk (bthen G2.out hb); clear hb) | (go_at_call 26; (with_reducible refine (HRe.out _).mono ?_); rintro e z4 ⟨rfl, hb⟩; have G4 := Aside0.mk (bthen G3.out hb); clear hb) | (go_at_call 12; (with_reducible refine (HE.out.raws _ _).mono ?_); rintro e z5 ⟨rfl, hb⟩; have G5 := Aside0.mk (bthen G4.out hb); clear hb) | (go_at_call 12; (with_reducible refine (HE.out.raws _ _).mono ?_); rintro e z6 ⟨rfl, hb⟩; have G6 := Aside0.mk (bthen G5.out hb); clear hb) | (go_at_call 14; (with_reducible refine (HE.out.toks _ _ (HE.out.on _ _ HK.out G6.out)).mono ?_); rintro e z7 ⟨rfl, hb⟩; have G7 := Aside0.mk (bthen G6.out hb); clear hb) | (go_at_call 39; (with_reducible refine (HE.out.places _ _ _ _ _).mono ?_); rintro e z8 ⟨rfl, hb⟩; have G8 := Aside0.mk (bthen G7.out hb); clear hb) | (go_at_call 12; (with_reducible refine (HE.out.raws _ _).mono ?_); rintro e z9 ⟨rfl, hb⟩; have G9 := Aside0.mk (bthen G8.out hb); clear hb) | (go_at_call 14; (with_reducible refine (HE.out.toks _ _ (HE.out.on _ _ HK.out G9.out)).mono ?_); rintro e y0 ⟨rfl, hb⟩; have J0 := Aside0.mk (bthen G9.out hb); clear hb) | (go_at_call 39; (with_reducible refine (HE.out.places _ _ _ _ _).mono ?_); rintro e y1 ⟨rfl, hb⟩; have J1 := Aside0.mk (bthen J0.out hb); clear hb) | (go_at_call 26; (with_reducible refine (HRf.out _).mono ?_); rintro e y2 ⟨rfl, hb⟩; have J2 := Aside0.mk (bthen J1.out hb); clear hb) | (go_at_call 12; (with_reducible refine (HE.out.raws _ _).mono ?_); rintro e y3 ⟨rfl, hb⟩; have J3 := Aside0.mk (bthen J2.out hb); clear hb) | (go_at_call 14; (with_reducible refine (HE.out.toks _ _ (HE.out.on _ _ HK.out J3.out)).mono ?_); rintro e y4 ⟨rfl, hb⟩; have J4 := Aside0.mk (bthen J3.out hb); clear hb) | (go_at_call 39; (with_reducible refine (HE.out.places _ _ _ _ _).mono ?_); rintro e y5 ⟨rfl, hb⟩; have J5 := Aside0.mk (bthen J4.out hb); clear hb) | (go_at_call 38; (with_reducible refine (nil_Z HE.out _ (HE.out.on _ _ HK.out J5.out)).mono ?_); rintro e y6 ⟨rfl, hb⟩; have J6 := Aside0.mk (bthen J5.out hb); clear hb) | (go_at_call 39; (with_reducible refine (HE.out.places _ _ _ _ _).mono ?_); rintro e y7 ⟨rfl, hb⟩; have J7 := Aside0.mk (bthen J6.out hb); clear hb) | (go_at_call 13; (with_reducible refine (HE2.out.awake _ (HE.out.on _ _ HK.out J7.out)).mono ?_); rintro e y8 ⟨rfl, hb⟩; have J8 := Aside0.mk (bthen J7.out hb); clear hb))
  go_ret
  exact ⟨rfl, J8.out⟩
end Go.Proofs.YtfnhjdehlikbaaaGreatDoor.Lx
