import Derived.Test.YtfnhjdehlikbaaaGreatDoorMC
import Derived.Test.YtfnhjdehlikbaaaGreatDoorMB
set_option linter.unusedVariables false
set_option linter.unusedSimpArgs false
/- LexSets (9): the walk. -/
namespace Go.Proofs.YtfnhjdehlikbaaaGreatDoor.Lx
open Go.RowKit Go.Proofs.YtfnhjdehlikbaaaGreatDoorW.PrintWords

theorem raw_says9 (s : ByteArray) (hs : s.size ≤ 100000) : ∀ W, Calls Tryz.prog 22 #[.string s] W fun e w' => ∃ A c, e = .returned (.tuple #[.slice A (rawF s).1.length c, .int .i64 (rawF s).2.1, .int .i64 (rawF s).2.2]) ∧ (rawF s).1.length ≤ c ∧ SrcT A c (rawF s).1 w' ∧ Below W.heap.size W w' :=
  fun W => (rawF_any s W (by omega)).mono fun e w' ⟨v, he, hr, hb⟩ => by
    obtain ⟨A, c, hv, hT⟩ := srcT_of_R hr
    obtain ⟨A2, c2, hv2, hc, _⟩ := srcC_reads hr
    rw [hv] at hv2
    injection hv2 with _ _ e3
    subst hv
    exact ⟨A, c, he, by omega, hT, hb⟩

set_option maxRecDepth 100000 in
set_option maxHeartbeats 16000000 in
theorem lawSets_any (A0 : Option Addr) (n0 c0 : Nat) (w : World) (h0 : BytesAt A0 n0 c0 w) (ht : Pow w) :
    Calls Tryz.prog 9 #[.slice A0 n0 c0] w fun e w' => e = .returned (.bool true) ∧ Below w.heap.size w w' := by
  have HT := Aside0.mk ht
  have HO1 := Aside0.mk (of_any A0 n0 c0 w h0)
  have HWR := Aside0.mk (fun b W (h : StoreAt W.heap.size b 0 W) => written_any b 0 60 W h (by omega) (by omega) (by omega))
  have HAW := Aside0.mk (fun W (hp : Pow W) => awake_any W hp)
  clear ht h0
  go_enter Tryz.func9, Tryz.ntmps9
  go_upto_region 2 with (first | (go_at_call 15; (with_reducible refine HO1.out.mono ?_); rintro e w1 ⟨b1, rfl, hb1, hs1, hw1⟩; have HX1 := Aside0.mk hs1; have HW1 := Aside0.mk hw1; have HG1 := Aside0.mk hb1; clear hb1 hs1 hw1) | (go_at_call 21; (with_reducible refine (HWR.out _ _ HX1.out).mono ?_); rintro e w2 ⟨s, rfl, hs, _, hk⟩; have HW2 := Aside0.mk (below_keep HW1.out hk HG1.out HW1.out.size); clear hk))
  clear HO1 HWR HX1 HW1 HG1
  have HR := Aside0.mk (raw_says9 s (by omega))
  by_cases he : (rawF s).2.2 = 0
  · obtain ⟨S, F, m, m2, hset, hflat, hS, hF, hrS, hrF, hl1, hl2, hb1, hb2, hlc⟩ := sets_all (by omega) he
    have hokay := rawF_okay he
    have hpl := fun t ht => tok_places hokay (t := t) ht
    have hz : ∀ t ∈ (rawF s).1, t.text.size ≤ 65536 := fun t ht => by
      obtain ⟨i, hi, rfl⟩ := List.getElem_of_mem ht
      exact ((rawOk_all s).1 i _ (List.getElem?_eq_getElem hi)).sz
    have hn4 := (rawOk_all s).2
    have hat : (rawF s).2.1 = 0 := by rw [hokay]
    rw [he, hat] at HR
    generalize (rawF s).1 = l at *
    have HSE := Aside0.mk (fun A c W (hp : Pow W) (hm : SrcT A c l W) => setR_any l A c W hp (by omega) hz hm)
    have HFL := Aside0.mk (fun A c W (hp : Pow W) (hm : SrcT A c l W) => flatR_any l A c W hp (by omega) hz hm)
    rw [hset] at HSE
    rw [hflat] at HFL
    have HRS : Aside0 (∀ W, Calls Tryz.prog 22 #[.string S] W fun e w' => ∃ A c, e = .returned (.tuple #[.slice A m.length c, .int .i64 0, .int .i64 0]) ∧ m.length ≤ c ∧ SrcT A c m w' ∧ Below W.heap.size W w') := ⟨fun W => by have h9 := raw_says9 S (by omega) W; rw [hrS] at h9; exact h9⟩
    have HRF : Aside0 (∀ W, Calls Tryz.prog 22 #[.string F] W fun e w' => ∃ A c, e = .returned (.tuple #[.slice A m2.length c, .int .i64 0, .int .i64 0]) ∧ m2.length ≤ c ∧ SrcT A c m2 w' ∧ Below W.heap.size W w') := ⟨fun W => by have h9 := raw_says9 F (by omega) W; rw [hrF] at h9; exact h9⟩
    have HPL := Aside0.mk hpl
    have HZ := Aside0.mk hz
    have HLC := Aside0.mk hlc
    obtain ⟨n, hn⟩ : ∃ n, l.length = n := ⟨_, rfl⟩
    have HN := Aside0.mk hn
    have HBL := Aside0.mk (fun A c W (h : SrcC A l W) => bares_any l A c W (by omega) h)
    have HBM := Aside0.mk (fun A c W (h : SrcC A m W) => bares_any m A c W (by omega) h)
    have HBM2 := Aside0.mk (fun A c W (h : SrcC A m2 W) => bares_any m2 A c W (by omega) h)
    have HEQ : Aside0 (∀ A0 A1 c0 c1 W, SrcB A0 (l.map tokBare) W → n ≤ c0 → SrcB A1 (l.map tokBare) W → n ≤ c1 → Calls Tryz.prog 27 #[.slice A0 n c0, .slice A1 n c1] W fun e w' => e = .returned (.bool true) ∧ Below W.heap.size W w') := ⟨fun A0 A1 c0 c1 W h0 hc0 h1 hc1 => by
      have h9 := equalB_any (l.map tokBare) (by rw [List.length_map]; omega) A0 A1 c0 c1 W h0 (by rw [List.length_map]; omega) h1 (by rw [List.length_map]; omega)
      rwa [List.length_map, hn] at h9⟩
    rw [hb1] at HBM
    rw [hb2] at HBM2
    have HML := Aside0.mk (show m.length = n by omega)
    rw [show m.length = n by omega] at HRS HBM
    rw [show m2.length = n by omega] at HRF HBM2
    rw [hn] at HR HSE HFL HBL
    clear hset hflat hS hF hrS hrF hl1 hl2 hb1 hb2 hlc hokay hpl hz hat he hn
    go_upto_region 5 with (go_at_call 22; (with_reducible refine (HR.out _).mono ?_); rintro e w3 ⟨A3, c3, rfl, hc3, hsr, hb⟩; have HSL := Aside0.mk hsr; have HW3 := Aside0.mk (HW2.out.trans (hb.mono HW2.out.size)); clear hsr hb)
    have hns : n ≤ 4000 := by have := HN.out; omega
    go_wp2
    go_loopg [38] n (fun f t38 wr => ∃ i : Nat, t38 = .int .i64 (i : Int) ∧ i + f = n ∧ Aside0 (Below w3.heap.size w3 wr))
    case atStart => exact ⟨0, rfl, by omega, ⟨Below.refl _ _⟩⟩
    case round =>
      obtain ⟨i, rfl, hif, HB⟩ := hrel
      by_cases hi : i < n
      · obtain ⟨f, rfl⟩ : ∃ f, gk = f + 1 := ⟨gk - 1, by omega⟩
        have hlt : i < l.length := by rw [HN.out]; exact hi
        have hi2 : (i : Int) < (n : Int) := by omega
        have hti := List.getElem?_eq_getElem hlt
        obtain ⟨g, rfl, q0, q1, q2, q3, q4, q5⟩ := (HSL.out.below HB.out).cell hti
        obtain ⟨u1, u2, u3, u4, u5⟩ := HPL.out _ (List.getElem_mem hlt)
        have u6 := HZ.out _ (List.getElem_mem hlt)
        generalize l[i] = t at hti q0 q1 q2 q3 q4 q5 u1 u2 u3 u4 u5 u6
        obtain ⟨tk, tn, tx, ta, tl, tc⟩ := t
        simp only at q0 q1 q2 q3 q4 q5 u1 u2 u3 u4 u5 u6
        have HP1 : Aside0 (∀ W, Calls Tryz.prog 33 #[.string s, .int .i64 ta] W fun e w' => e = .returned (.tuple #[.int .i64 tl, .int .i64 tc, .int .i64 0]) ∧ Below W.heap.size W w') := ⟨fun W => by have h9 := place_any s ta W; rw [u1] at h9; exact h9⟩
        have HP2 : Aside0 (∀ W, Calls Tryz.prog 34 #[.string s, .int .i64 tl, .int .i64 tc] W fun e w' => e = .returned (.tuple #[.int .i64 ta, .int .i64 0]) ∧ Below W.heap.size W w') := ⟨fun W => by have h9 := indexF_any s tl tc W (by omega); rw [u2] at h9; exact h9⟩
        have HP3 : Aside0 (∀ W, Calls Tryz.prog 35 #[.string (s.extract ta.toNat s.size), .string tx] W fun e w' => e = .returned (.bool true) ∧ W = w') := ⟨fun W => by have h9 := hasPrefix_any (s.extract ta.toNat s.size) tx W (by have := extract_size s ta.toNat s.size (by omega) (Nat.le_refl _); omega) (by omega); rw [u3] at h9; exact h9⟩
        have hgw : g < wr.heap.size := World.block_lt_of_cell? _ _ q0
        have x1 : (tl != tl) = false := bne_self_eq_false _
        have x2 : (tc != tc) = false := bne_self_eq_false _
        have x3 : (ta != ta) = false := bne_self_eq_false _
        clear hti hlt u1 u2 u3
        go_upto_region 10 with (first
          | (go_at_call 33; (with_reducible refine (HP1.out _).mono ?_); rintro e w4 ⟨rfl, hb⟩; have e0 := (hb.block _ (by simp)).trans (heap_new wr (.cells #[.int .i64 tk, .int .i64 tn, .string tx, .int .i64 ta, .int .i64 tl, .int .i64 tc] 54)); have y3 : w4.cell? ⟨wr.heap.size, 3, none⟩ = some (.int .i64 ta) := cell_of e0 3; have y4 : w4.cell? ⟨wr.heap.size, 4, none⟩ = some (.int .i64 tl) := cell_of e0 4; have y5 : w4.cell? ⟨wr.heap.size, 5, none⟩ = some (.int .i64 tc) := cell_of e0 5; have HX4 := Aside0.mk e0; have HB4 := Aside0.mk (((Below.refl _ wr).alloc (Nat.le_refl _) (.cells #[.int .i64 tk, .int .i64 tn, .string tx, .int .i64 ta, .int .i64 tl, .int .i64 tc] 54)).trans (hb.mono (by simp))); clear hb e0)
          | (go_at_call 34; (with_reducible refine (HP2.out _).mono ?_); rintro e w5 ⟨rfl, hb⟩; have e0 := (hb.block _ (heap_lt HX4.out)).trans HX4.out; have z2 : w5.cell? ⟨wr.heap.size, 2, none⟩ = some (.string tx) := cell_of e0 2; have z3 : w5.cell? ⟨wr.heap.size, 3, none⟩ = some (.int .i64 ta) := cell_of e0 3; have z4 : w5.cell? ⟨wr.heap.size, 4, none⟩ = some (.int .i64 tl) := cell_of e0 4; have z5 : w5.cell? ⟨wr.heap.size, 5, none⟩ = some (.int .i64 tc) := cell_of e0 5; have HB5 := Aside0.mk (HB4.out.trans (hb.mono HB4.out.size)); clear hb e0))
        go_quiet ((go_at_call 35; exact quiet_same (HP3.out _)))
        go_wp2
        go_roundg f
        case measure => omega
        case rel => exact ⟨i + 1, by go_num, by omega, ⟨HB.out.trans ((below_drewN HB5.out _).mono HB.out.size)⟩⟩
      · have hni : ¬ (i : Int) < (n : Int) := by omega
        have HWr := Aside0.mk (HW3.out.trans (HB.out.mono HW3.out.size))
        have HSr := Aside0.mk (HSL.out.below HB.out)
        clear HB HW3 HSL HW2
        go_upto_region 21 with (first
          | (go_at_call 36; (with_reducible refine (HSE.out _ _ _ (HT.out.on HWr.out) HSr.out).mono ?_); rintro e wA ⟨rfl, hb⟩; have HSA := Aside0.mk (HSr.out.below hb); have HWA := Aside0.mk (HWr.out.trans (hb.mono HWr.out.size)); clear hb)
          | (go_at_call 22; (with_reducible refine (HRS.out _).mono ?_); rintro e wB ⟨AB, cB, rfl, hcB, hsr, hb⟩; have HSB := Aside0.mk (HSA.out.below hb); have HMB := Aside0.mk hsr; have HWB := Aside0.mk (HWA.out.trans (hb.mono HWA.out.size)); clear hb hsr)
          | (go_at_call 37; (with_reducible refine (HFL.out _ _ _ (HT.out.on HWB.out) HSB.out).mono ?_); rintro e wC ⟨rfl, hb⟩; have HSC := Aside0.mk (HSB.out.below hb); have HMC := Aside0.mk (HMB.out.below hb); have HWC := Aside0.mk (HWB.out.trans (hb.mono HWB.out.size)); clear hb)
          | (go_at_call 22; (with_reducible refine (HRF.out _).mono ?_); rintro e wD ⟨AD, cD, rfl, hcD, hsr, hb⟩; have HSD := Aside0.mk (HSC.out.below hb); have HMD := Aside0.mk (HMC.out.below hb); have HND := Aside0.mk hsr; have HWD := Aside0.mk (HWC.out.trans (hb.mono HWC.out.size)); clear hb hsr)
          | (go_at_call 28; (with_reducible refine (HBM.out _ _ _ HMD.out.srcC).mono ?_); rintro e wE ⟨O1, c1, rfl, hc1, hsr, hb⟩; have HSE' := Aside0.mk (HSD.out.below hb); have HME := Aside0.mk (HMD.out.below hb); have HNE := Aside0.mk (HND.out.below hb); have HB1 := Aside0.mk hsr; have HWE := Aside0.mk (HWD.out.trans (hb.mono HWD.out.size)); clear hb hsr)
          | (go_at_call 28; (with_reducible refine (HBL.out _ _ _ HSE'.out.srcC).mono ?_); rintro e wF ⟨O2, c2, rfl, hc2, hsr, hb⟩; have HSF := Aside0.mk (HSE'.out.below hb); have HMF := Aside0.mk (HME.out.below hb); have HNF := Aside0.mk (HNE.out.below hb); have HB1F := Aside0.mk (HB1.out.below hb); have HB2 := Aside0.mk hsr; have HWF := Aside0.mk (HWE.out.trans (hb.mono HWE.out.size)); clear hb hsr)
          | (go_at_call 27; (with_reducible refine (HEQ.out _ _ _ _ _ HB1F.out hc1 HB2.out hc2).mono ?_); rintro e wG ⟨rfl, hb⟩; have HSG := Aside0.mk (HSF.out.below hb); have HMG := Aside0.mk (HMF.out.below hb); have HNG := Aside0.mk (HNF.out.below hb); have HWG := Aside0.mk (HWF.out.trans (hb.mono HWF.out.size)); clear hb)
          | (go_at_call 28; (with_reducible refine (HBM2.out _ _ _ HNG.out.srcC).mono ?_); rintro e wH ⟨O3, c3', rfl, hc3', hsr, hb⟩; have HSH := Aside0.mk (HSG.out.below hb); have HMH := Aside0.mk (HMG.out.below hb); have HB3 := Aside0.mk hsr; have HWH := Aside0.mk (HWG.out.trans (hb.mono HWG.out.size)); clear hb hsr)
          | (go_at_call 28; (with_reducible refine (HBL.out _ _ _ HSH.out.srcC).mono ?_); rintro e wI ⟨O4, c4, rfl, hc4, hsr, hb⟩; have HSI := Aside0.mk (HSH.out.below hb); have HMI := Aside0.mk (HMH.out.below hb); have HB3I := Aside0.mk (HB3.out.below hb); have HB4 := Aside0.mk hsr; have HWI := Aside0.mk (HWH.out.trans (hb.mono HWH.out.size)); clear hb hsr)
          | (go_at_call 27; (with_reducible refine (HEQ.out _ _ _ _ _ HB3I.out hc3' HB4.out hc4).mono ?_); rintro e wJ ⟨rfl, hb⟩; have HSJ := Aside0.mk (HSI.out.below hb); have HMJ := Aside0.mk (HMI.out.below hb); have HWJ := Aside0.mk (HWI.out.trans (hb.mono HWI.out.size)); clear hb))
        clear HSr HSA HSB HSC HSD HSE' HSF HSG HSH HSI HMB HMC HMD HME HMF HMG HMH HMI HND HNE HNF HNG HB1 HB1F HB2 HB3 HB3I HB4 HWr HWA HWB HWC HWD HWE HWF HWG HWH HWI HRS HRF HBL HBM HBM2 HEQ HSE HFL HR HPL HZ
        go_wp2
        go_loopg [145] n (fun f t145 wr => ∃ i : Nat, t145 = .int .i64 (i : Int) ∧ i + f = n ∧ Aside0 (Below wJ.heap.size wJ wr))
        case atStart => exact ⟨0, rfl, by omega, ⟨Below.refl _ _⟩⟩
        case round =>
          obtain ⟨i, rfl, hif, HB⟩ := hrel
          by_cases hi : i < n
          · obtain ⟨f, rfl⟩ : ∃ f, gk = f + 1 := ⟨gk - 1, by omega⟩
            have hi2 : (i : Int) < (n : Int) := by omega
            have hlt : i < l.length := by rw [HN.out]; exact hi
            have hlt2 : i < m.length := by rw [HML.out]; exact hi
            have hti := List.getElem?_eq_getElem hlt
            have hti2 := List.getElem?_eq_getElem hlt2
            obtain ⟨hcl, hcc⟩ := HLC.out i _ _ hti2 hti
            obtain ⟨g, rfl, q0, q1, q2, q3, q4, q5⟩ := (HSJ.out.below HB.out).cell hti
            obtain ⟨g', rfl, p0, p1, p2, p3, p4, p5⟩ := (HMJ.out.below HB.out).cell hti2
            generalize l[i] = t at hti q0 q1 q2 q3 q4 q5 hcl hcc
            generalize m[i] = t' at hti2 p0 p1 p2 p3 p4 p5 hcl hcc
            obtain ⟨tk, tn, tx, ta, tl, tc⟩ := t
            obtain ⟨tk', tn', tx', ta', tl', tc'⟩ := t'
            simp only at q0 q1 q2 q3 q4 q5 p0 p1 p2 p3 p4 p5 hcl hcc
            subst hcl hcc
            have hgw : g < wr.heap.size := World.block_lt_of_cell? _ _ q0
            have hgw' : g' < wr.heap.size := World.block_lt_of_cell? _ _ p0
            have x1 : (tl' != tl') = false := bne_self_eq_false _
            have x2 : (tc' != tc') = false := bne_self_eq_false _
            clear hti hti2 hlt hlt2
            go_upto_region 24 with (fail)
            go_quiet (fail)
            go_wp2
            go_roundg f
            case measure => omega
            case rel => exact ⟨i + 1, by go_num, by omega, ⟨HB.out.trans (below_drewN (((Below.refl _ wr).alloc (Nat.le_refl _) (.cells #[.int .i64 tk', .int .i64 tn', .string tx', .int .i64 ta', .int .i64 tl', .int .i64 tc'] 54)).mono HB.out.size) _)⟩⟩
          · have hni2 : ¬ (i : Int) < (n : Int) := by omega
            have HWz := Aside0.mk (HWJ.out.trans (HB.out.mono HWJ.out.size))
            go_wp2_with (go_at_call 13; (with_reducible refine (HAW.out _ (HT.out.on HWz.out)).mono ?_); rintro e w9 ⟨rfl, hb9⟩; have HW9 := Aside0.mk (HWz.out.trans (hb9.mono HWz.out.size)); clear hb9)
            go_ret
            exact ⟨rfl, HW9.out⟩
  · have h1c : ((rawF s).2.2 != 0) = true := by simp [he]
    generalize rawF s = R at *
    obtain ⟨l, at_, e0⟩ := R
    simp only at HR he h1c
    clear he
    go_wp2_with (first | (go_at_call 22; (with_reducible refine (HR.out _).mono ?_); rintro e w5 ⟨A5, c5, rfl, _, _, hb5⟩; have HW5 := Aside0.mk (HW2.out.trans (hb5.mono HW2.out.size)); clear hb5) | (go_at_call 13; (with_reducible refine (HAW.out _ (HT.out.on HW5.out)).mono ?_); rintro e w9 ⟨rfl, hb9⟩; have HW9 := Aside0.mk (HW5.out.trans (hb9.mono HW5.out.size)); clear hb9))
    go_ret
    exact ⟨rfl, HW9.out⟩

end Go.Proofs.YtfnhjdehlikbaaaGreatDoor.Lx

