import Derived.Test.YtfnhjdehlikbaaaGreatDoorME
import Derived.Test.YtfnhjdehlikbaaaGreatDoorMB
import Derived.Laws.EntriesVeiled
import Derived.WalkKit
import Derived.ProofKit
import Derived.OpenShut
import Derived.Carry
import Derived.ChangeSlices
import Derived.Deep.Slices
import Derived.DataReads
set_option linter.unusedVariables false
set_option linter.unusedSimpArgs false
/- lexLays (38), LexLays (10). -/
namespace Go.Proofs.YtfnhjdehlikbaaaGreatDoor.Lx
open Go.RowKit Go.Proofs.YtfnhjdehlikbaaaGreatDoorW.PrintWords

theorem layR_len (l : List Tok) : (layR l).1.length ≤ 6 + 4 * l.length := by
  unfold layR
  split
  · exact layF_len l
  · exact Nat.zero_le _

set_option maxRecDepth 100000 in
set_option maxHeartbeats 4000000 in
theorem lexLays_many (n : Nat) (A : Option Addr) (c : Nat) (w : World) (hn : 4005 < n) :
    Calls Tryz.prog 38 #[.slice A n c] w fun e w' => e = .returned (.bool true) ∧ Below w.heap.size w w' := by
  have h1 : decide ((n : Int) > 4005) = true := by simp; omega
  have h2 : decide (4005 < (n : Int)) = true := by simp; omega
  go_enter Tryz.func38, Tryz.ntmps38
  go_wp2
  go_ret
  exact ⟨rfl, (Below.refl _ w).alloc (Nat.le_refl _) _⟩

set_option maxRecDepth 100000 in
set_option maxHeartbeats 16000000 in
theorem lexLays_any (l : List Tok) (A : Option Addr) (c : Nat) (w : World) (ht : Pow w) (hT : SrcG A l w) (hc : l.length ≤ c) (hA : A = none → l = [] ∧ c = 0) :
    Calls Tryz.prog 38 #[.slice A l.length c] w fun e w' => e = .returned (.bool true) ∧ Below w.heap.size w w' := by
  by_cases hbig : 4005 < l.length
  · exact lexLays_many _ A c w hbig
  · have HB0 : Aside0 (Below w.heap.size w (w.alloc (.cells #[.func (.func 71) #[] #[]] 43))) := ⟨(Below.refl _ w).alloc (Nat.le_refl _) _⟩
    have HCT := Aside0.mk (contains72_any l A c w.heap.size _ (by omega) (hT.below HB0.out) (heap_new w (.cells #[.func (.func 71) #[] #[]] 43)))
    by_cases hoff : l.any offT = true
    · rw [hoff] at HCT
      obtain ⟨n, hn⟩ : ∃ n, l.length = n := ⟨_, rfl⟩
      rw [hn] at HCT hbig ⊢
      have h1 : decide ((n : Int) > 4005) = false := by simp; omega
      have h2 : decide (4005 < (n : Int)) = false := by simp; omega
      clear hn hT hoff hA hc
      go_enter Tryz.func38, Tryz.ntmps38
      go_wp2_with (go_at_call 72; (with_reducible refine HCT.out.mono ?_); rintro e w1 ⟨rfl, hb⟩; have HB1 := Aside0.mk (HB0.out.trans (hb.mono HB0.out.size)); clear hb)
      go_ret
      exact ⟨rfl, HB1.out⟩
    · have hoff2 : l.any offT = false := by simpa using hoff
      rw [hoff2] at HCT
      have hz : ∀ t ∈ l, t.text.size ≤ 65536 := fun t ht => by
        have h9 : offT t = false := by
          cases h8 : offT t with
          | false => rfl
          | true => exact absurd (List.any_eq_true.2 ⟨t, ht, h8⟩) hoff
        unfold offT at h9
        simp only [Bool.or_eq_false_iff, decide_eq_false_iff_not] at h9
        omega
      have HT := Aside0.mk ht
      have HS := Aside0.mk hT
      have HCL := Aside0.mk (fun W (hb : Below w.heap.size w W) => cloneG_any l A c W (by omega) (hT.below hb) hA)
      have HOU := Aside0.mk (fun W (hb : Below w.heap.size w W) => ours_any l A c W (by omega) (hT.below hb))
      have HRL := Aside0.mk (fun O c' W (h1 : l.length ≤ c') (h2 : SrcC O l W) => refLayR_any l O c' W (by omega) hz h1 h2)
      have HRS := Aside0.mk (fun O c' W (h2 : SrcC O l W) => refSetR_any l O c' W (by omega) hz h2)
      have HRF := Aside0.mk (fun O c' W (h2 : SrcC O l W) => refFlatR_any l O c' W (by omega) hz h2)
      have HLY := Aside0.mk (fun M cm W (hp : Pow W) (hm : SrcT M cm l W) => layR_any l M cm W hp (by omega) hz hm)
      have HSE := Aside0.mk (fun M cm W (hp : Pow W) (hm : SrcT M cm l W) => setR_any l M cm W hp (by omega) hz hm)
      have HFL := Aside0.mk (fun M cm W (hp : Pow W) (hm : SrcT M cm l W) => flatR_any l M cm W hp (by omega) hz hm)
      have HEG := Aside0.mk (fun M cm W (h1 : SrcC M l W) (h2 : l.length ≤ cm) (h3 : SrcG A l W) => equalG_any l (by omega) M A cm c W h1 h2 h3 hc)
      have hol := layR_len l
      have HTH := Aside0.mk (fun A' c' W (h : SrcC A' (layR l).1 W) => theirs_any (layR l).1 A' c' W (by omega) h)
      have HEQ := Aside0.mk (fun A0 A1 c0 c1 W => equal_any (layR l).1 (by omega) A0 A1 c0 c1 W)
      unfold TokRes at HLY
      unfold RefRes at HRL
      generalize layR l = P at HRL HLY HTH HEQ hol
      obtain ⟨out, at9, e9⟩ := P
      generalize setR l = S9 at HRS HSE
      obtain ⟨s8, e8⟩ := S9
      generalize flatR l = F9 at HRF HFL
      obtain ⟨s7, e7⟩ := F9
      simp only at HRL HLY HTH HEQ hol HRS HSE HRF HFL
      obtain ⟨n, hn⟩ : ∃ n, l.length = n := ⟨_, rfl⟩
      rw [hn] at HCT hbig HCL HOU HRL HRS HRF HLY HSE HFL HEG ⊢
      have h1 : decide ((n : Int) > 4005) = false := by simp; omega
      have h2 : decide (4005 < (n : Int)) = false := by simp; omega
      have x1 : (e9 != e9) = false := bne_self_eq_false _
      have x2 : (at9 != at9) = false := bne_self_eq_false _
      have x3 : (e8 != e8) = false := bne_self_eq_false _
      have x4 : (e7 != e7) = false := bne_self_eq_false _
      have x5 : (s8.toList != s8.toList) = false := bne_self_eq_false _
      have x6 : (s7.toList != s7.toList) = false := bne_self_eq_false _
      clear hn hT hoff hoff2 hA hc hz ht
      go_enter Tryz.func38, Tryz.ntmps38
      go_upto_region 5 with (first
        | (go_at_call 72; (with_reducible refine HCT.out.mono ?_); rintro e w1 ⟨rfl, hb⟩; have HB1 := Aside0.mk (HB0.out.trans (hb.mono HB0.out.size)); clear hb)
        | (go_at_call 62; (refine (HCL.out _ HB1.out).mono ?_); rintro e w2 ⟨M, cm, rfl, hcm, hm, hb⟩; have HM := Aside0.mk hm; have HB2 := Aside0.mk (HB1.out.trans (hb.mono HB1.out.size)); clear hm hb))
      go_upto_region 6 with (first
        | (go_at_call 75; (refine (HOU.out _ HB2.out).mono ?_); rintro e w3 ⟨O3, c3, rfl, hc3, ho, hb⟩; have HO3 := Aside0.mk ho; have HC3 := Aside0.mk hb; have HB3 := Aside0.mk (HB2.out.trans (hb.mono HB2.out.size)); clear ho hb)
        | (go_at_call 74; (refine (HRL.out _ _ _ hc3 HO3.out).mono ?_); rintro e w4 ⟨A4, c4, rfl, ho, hb⟩; have HA4 := Aside0.mk ho; have HC4 := Aside0.mk (HC3.out.trans (hb.mono HC3.out.size)); have HB4 := Aside0.mk (HB3.out.trans (hb.mono HB3.out.size)); clear ho hb))
      go_upto_region 7 with (first
        | (go_at_call 75; (refine (HOU.out _ HB4.out).mono ?_); rintro e w5 ⟨O5, c5, rfl, hc5, ho, hb⟩; have HO5 := Aside0.mk ho; have HD5 := Aside0.mk hb; have HC5 := Aside0.mk (HC4.out.trans (hb.mono HC4.out.size)); have HB5 := Aside0.mk (HB4.out.trans (hb.mono HB4.out.size)); clear ho hb)
        | (go_at_call 76; (refine (HRS.out _ _ _ HO5.out).mono ?_); rintro e w6 ⟨rfl, hb⟩; have HD6 := Aside0.mk (HD5.out.trans (hb.mono HD5.out.size)); have HC6 := Aside0.mk (HC5.out.trans (hb.mono HC5.out.size)); have HB6 := Aside0.mk (HB5.out.trans (hb.mono HB5.out.size)); clear hb))
      go_upto_region 8 with (first
        | (go_at_call 75; (refine (HOU.out _ HB6.out).mono ?_); rintro e w7 ⟨O7, c7, rfl, hc7, ho, hb⟩; have HO7 := Aside0.mk ho; have HD7 := Aside0.mk (HD6.out.trans (hb.mono HD6.out.size)); have HC7 := Aside0.mk (HC6.out.trans (hb.mono HC6.out.size)); have HB7 := Aside0.mk (HB6.out.trans (hb.mono HB6.out.size)); clear ho hb)
        | (go_at_call 77; (refine (HRF.out _ _ _ HO7.out).mono ?_); rintro e w8 ⟨rfl, hb⟩; have HD8 := Aside0.mk (HD7.out.trans (hb.mono HD7.out.size)); have HC8 := Aside0.mk (HC7.out.trans (hb.mono HC7.out.size)); have HB8 := Aside0.mk (HB7.out.trans (hb.mono HB7.out.size)); clear hb))
      have HM8 := Aside0.mk (HM.out.below HC8.out)
      clear HM HO3 HO5 HO7 HC3 HC4 HC5 HC6 HC7 HB0 HB1 HB2 HB3 HB4 HB5 HB6 HB7 HD5 HD6 HD7 HCT HCL HOU HRL HRS HRF
      go_upto_region 9 with (go_at_call 56; (refine (HLY.out _ _ _ (HT.out.on HB8.out) HM8.out).mono ?_); rintro e w9 ⟨v9, rfl, hr, hb⟩; obtain ⟨A9, c9, rfl, hc9, hC⟩ := srcC_reads hr; have HR9 := Aside0.mk hr; have HA9 := Aside0.mk hC; have HF9 := Aside0.mk hb; have HM9 := Aside0.mk (HM8.out.below hb); have HD9 := Aside0.mk (HD8.out.trans (hb.mono HD8.out.size)); have HB9 := Aside0.mk (HB8.out.trans (hb.mono HB8.out.size)); clear hr hC hb)
      go_upto_region 10 with (go_at_call 36; (refine (HSE.out _ _ _ (HT.out.on HB9.out) HM9.out).mono ?_); rintro e w10 ⟨rfl, hb⟩; have HE10 := Aside0.mk hb; have HM10 := Aside0.mk (HM9.out.below hb); have HD10 := Aside0.mk (HD9.out.trans (hb.mono HD9.out.size)); have HB10 := Aside0.mk (HB9.out.trans (hb.mono HB9.out.size)); clear hb)
      go_upto_region 11 with (go_at_call 37; (refine (HFL.out _ _ _ (HT.out.on HB10.out) HM10.out).mono ?_); rintro e w11 ⟨rfl, hb⟩; have HE11 := Aside0.mk (HE10.out.trans (hb.mono HE10.out.size)); have HD11 := Aside0.mk (HD10.out.trans (hb.mono HD10.out.size)); have HB11 := Aside0.mk (HB10.out.trans (hb.mono HB10.out.size)); clear hb)
      have HA4b := Aside0.mk (HA4.out.below HD11.out)
      go_upto_region 13 with (first
        | (go_at_call 41; (refine (HTH.out _ _ _ HA4b.out).mono ?_); rintro e w12 ⟨v12, rfl, hr, hb⟩; obtain ⟨A12, c12, rfl, hc12, hC⟩ := srcC_reads hr; have HA12 := Aside0.mk hC; have HE12 := Aside0.mk (HE11.out.trans (hb.mono HE11.out.size)); have HA9b := Aside0.mk (HA9.out.below HE12.out); clear hr hC hb)
        | (go_at_call 29; (refine (HEQ.out _ _ _ _ _ HA9b.out hc9 HA12.out hc12).mono ?_); rintro e w13 ⟨rfl, hb⟩; have HE13 := Aside0.mk (HE12.out.trans (hb.mono HE12.out.size)); clear hb))
      obtain ⟨W14, hcl, hb14⟩ := clear_any HR9.out HE13.out (HF9.out.trans (HE13.out.mono HF9.out.size)) (Nat.le_refl _)
      have HM14 := Aside0.mk (HM8.out.below hb14)
      have HB14 := Aside0.mk (HB8.out.trans (hb14.mono HB8.out.size))
      clear hb14
      go_upto_region 14 with (simp only [hcl])
      clear hcl
      go_wp2_with (go_at_call 29; (refine (HEG.out _ _ _ HM14.out.srcC hcm (HS.out.below HB14.out)).mono ?_); rintro e w15 ⟨rfl, hb⟩; have HB15 := Aside0.mk (HB14.out.trans (hb.mono HB14.out.size)); clear hb)
      go_ret
      exact ⟨rfl, HB15.out⟩

set_option maxRecDepth 100000 in
theorem lawLays_any (l : List Tok) (A : Option Addr) (c : Nat) (w : World) (ht : Pow w) (hT : SrcG A l w) (hc : l.length ≤ c) (hA : A = none → l = [] ∧ c = 0) :
    Calls Tryz.prog 10 #[.slice A l.length c] w fun e w' => e = .returned (.bool true) ∧ Below w.heap.size w w' := by
  have HT := Aside0.mk ht; clear ht
  have HL := Aside0.mk (lexLays_any l A c w HT.out hT hc hA)
  generalize l.length = n at HL ⊢
  clear hT hc hA
  go_enter Tryz.func10, Tryz.ntmps10
  go_wp2_with (first | (go_at_call 38; (with_reducible refine HL.out.mono ?_); rintro e w1 ⟨rfl, hb⟩; have HB := Aside0.mk hb; clear hb) | (go_at_call 13; refine (awake_any _ (HT.out.on HB.out)).mono ?_; rintro e w2 ⟨rfl, hb2⟩; have HB2 := Aside0.mk (HB.out.trans (hb2.mono HB.out.size)); clear hb2))
  go_ret
  exact ⟨rfl, HB2.out⟩

end Go.Proofs.YtfnhjdehlikbaaaGreatDoor.Lx

/- Tokens that came in, as the card reads them. -/
namespace Go.Proofs.YtfnhjdehlikbaaaGreatDoor.Lx
open Go.ChangeShapes Go.WideShapes Go.ChangeAt Go.ChangeMaps Go.RowKit

set_option maxRecDepth 100000
theorem cells54 : Tryz.prog.cellsOf 54 = 6 := by kernel_rfl
theorem cells3' : Tryz.prog.cellsOf 3 = 1 := by kernel_rfl
theorem cells9 : Tryz.prog.cellsOf 9 = 1 := by kernel_rfl
section
variable {H : Type} {enc : TypeId × Value → H} {W : World} {base : Nat} {sp : Nat → Bool} {held : Bool}
theorem trod_i3 {fuel : Nat} {cs : List Value} {x : DataW H × List MemPlace} (h : DataW.trod enc Tryz.prog W base sp held fuel 3 cs = some x) : ∃ n, cs = [.int .i64 n] := by
  cases fuel with
  | zero => simp [DataW.trod] at h
  | succ m =>
    simp only [DataW.trod, Tryz.underlying3] at h
    cases cs with
    | nil => simp at h
    | cons v r =>
      cases r with
      | cons _ _ => simp at h
      | nil =>
        cases v <;> simp at h
        obtain ⟨⟨h1, _⟩, _⟩ := h
        rw [h1]
        exact ⟨_, rfl⟩
theorem trod_s9 {fuel : Nat} {cs : List Value} {x : DataW H × List MemPlace} (h : DataW.trod enc Tryz.prog W base sp held fuel 9 cs = some x) : ∃ s, cs = [.string s] := by
  cases fuel with
  | zero => simp [DataW.trod] at h
  | succ m =>
    simp only [DataW.trod, Tryz.underlying9] at h
    cases cs with
    | nil => simp at h
    | cons v r =>
      cases r with
      | cons _ _ => simp at h
      | nil =>
        cases v <;> simp at h
        exact ⟨_, rfl⟩
theorem trod_tok {fuel : Nat} {cs : List Value} {x : DataW H × List MemPlace} (h : DataW.trod enc Tryz.prog W base sp held fuel 54 cs = some x) : ∃ t : Tok, cs = t.cells.toList := by
  obtain ⟨xs, n, _, rfl, hl, hlen, hf⟩ := DataW.trod_struct Tryz.underlying54 h
  rw [cells54] at hl
  match cs, hl with
  | [v0, v1, v2, v3, v4, v5], _ =>
    match xs, hlen with
    | [y0, y1, y2, y3, y4, y5], _ =>
      have f0 := hf 0 _ rfl
      have f1 := hf 1 _ rfl
      have f2 := hf 2 _ rfl
      have f3 := hf 3 _ rfl
      have f4 := hf 4 _ rfl
      have f5 := hf 5 _ rfl
      obtain ⟨n0, e0⟩ := trod_i3 f0
      obtain ⟨n1, e1⟩ := trod_i3 f1
      obtain ⟨s2, e2⟩ := trod_s9 f2
      obtain ⟨n3, e3⟩ := trod_i3 f3
      obtain ⟨n4, e4⟩ := trod_i3 f4
      obtain ⟨n5, e5⟩ := trod_i3 f5
      change List.take (Tryz.prog.cellsOf 3) (List.drop 0 [v0, v1, v2, v3, v4, v5]) = _ at e0
      rw [cells3'] at e0
      change List.take (Tryz.prog.cellsOf 3) (List.drop 1 [v0, v1, v2, v3, v4, v5]) = _ at e1
      rw [cells3'] at e1
      change List.take (Tryz.prog.cellsOf 9) (List.drop 2 [v0, v1, v2, v3, v4, v5]) = _ at e2
      rw [cells9] at e2
      change List.take (Tryz.prog.cellsOf 3) (List.drop 3 [v0, v1, v2, v3, v4, v5]) = _ at e3
      rw [cells3'] at e3
      change List.take (Tryz.prog.cellsOf 3) (List.drop 4 [v0, v1, v2, v3, v4, v5]) = _ at e4
      rw [cells3'] at e4
      change List.take (Tryz.prog.cellsOf 3) (List.drop 5 [v0, v1, v2, v3, v4, v5]) = _ at e5
      rw [cells3'] at e5
      simp at e0 e1 e2 e3 e4 e5
      subst e0 e1 e2 e3 e4 e5
      exact ⟨⟨n0, n1, s2, n3, n4, n5⟩, rfl⟩
end
/-- Tokens that came in. -/
theorem tokens_of {H : Type} {enc : TypeId × Value → H} {W : World} {base : Nat} {r : Reach} {v : Value} {d : DataW H} {ps : List MemPlace} (hval : Value.okWide Tryz.prog W r base 34 v) (h : DataW.Trod enc Tryz.prog W 0 (fun _ => true) true 34 v d ps) :
    ∃ A c, ∃ l : List Tok, v = .slice A l.length c ∧ l.length ≤ c ∧ (A = none → l = [] ∧ c = 0) ∧ SrcG A l W := by
  obtain ⟨fuel, hf⟩ := h
  obtain ⟨a0, len, cap, rfl⟩ := okWide_slice Tryz.underlying34 hval
  rcases Deep.open_slice Tryz.underlying34 hf with ⟨hcs, _⟩ | ⟨a, len', cap', m, n, D, Pl, hcs, _, hl, _, hm, _, hx⟩
  · simp [Value.cells] at hcs
    obtain ⟨rfl, rfl, rfl⟩ := hcs
    exact ⟨none, 0, [], rfl, Nat.le_refl _, fun _ => ⟨rfl, rfl⟩, fun i t ht => by simp at ht⟩
  · simp [Value.cells] at hcs
    obtain ⟨rfl, rfl, rfl⟩ := hcs
    rw [if_pos rfl] at hm
    have hex : ∀ i, ∃ t : Tok, i < len → ∀ j, j < 6 → W.cell? ((a.add (i * 6)).add j) = t.cells.toList[j]? := fun i => by
      by_cases hi : i < len
      · obtain ⟨cs', h1, h2⟩ := hx i (by omega)
        rw [cells54] at h1
        obtain ⟨t, rfl⟩ := trod_tok h2
        obtain ⟨_, _, h3⟩ := World.cells?_some h1
        exact ⟨t, fun _ => h3⟩
      · exact ⟨tokZ, fun h => absurd h hi⟩
    obtain ⟨f, hf2⟩ := Classical.skolem.1 hex
    have hlen : ((List.range len).map f).length = len := by simp
    refine ⟨some a, cap, (List.range len).map f, by rw [hlen], by rw [hlen]; exact hl, (fun h => by cases h), fun i t ht => ?_⟩
    have hi : i < len := by have := (List.getElem?_eq_some_iff.1 ht).1; rwa [hlen] at this
    have htf : t = f i := by
      rw [List.getElem?_map, List.getElem?_range hi] at ht
      injection ht with ht
      exact ht.symm
    have h0 := hf2 0 (by omega) 0 (by omega)
    have hsp : a.spot = none := World.cell?_spot (show W.cell? a = some (.int .i64 (f 0).kind) from h0)
    have hlt : a.block < W.heap.size := World.block_lt_of_cell? W a (show W.cell? a = some (.int .i64 (f 0).kind) from h0)
    obtain ⟨b, o, s⟩ := a
    simp only at hsp hlt
    subst hsp
    have key : ∀ j u, j < 6 → t.cells.toList[j]? = some u → W.cell? ⟨b, o + i * 6 + j, none⟩ = some u := fun j u hj hu => by
      have h9 := hf2 i hi j hj
      rw [← htf, hu] at h9
      rw [← h9, Addr.add_add]
      congr 1
      unfold Addr.add
      split <;> simp_all [Nat.add_assoc]
    exact ⟨b, o, rfl, hlt, key 0 _ (by omega) rfl, key 1 _ (by omega) rfl, key 2 _ (by omega) rfl, key 3 _ (by omega) rfl, key 4 _ (by omega) rfl, key 5 _ (by omega) rfl⟩

end Go.Proofs.YtfnhjdehlikbaaaGreatDoor.Lx

