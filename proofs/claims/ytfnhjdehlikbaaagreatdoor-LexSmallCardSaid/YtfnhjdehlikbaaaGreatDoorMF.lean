import Derived.Test.YtfnhjdehlikbaaaGreatDoorME
import Derived.Test.YtfnhjdehlikbaaaGreatDoorMB
import Derived.Test.YtfnhjdehlikbaaaGreatDoorM4
import Derived.Laws.EntriesVeiled
set_option linter.unusedVariables false
set_option linter.unusedSimpArgs false
namespace Go.Proofs.YtfnhjdehlikbaaaGreatDoor.Lx
open Go.RowKit Go.Proofs.YtfnhjdehlikbaaaGreatDoorW.PrintWords
theorem layR_len (l : List Tok) : (layR l).1.length ≤ 6 + 4 * l.length := by
  unfold layR
  split
  · exact layF_len l
  · exact Nat.zero_le _
set_option maxRecDepth 100000 in
set_option maxHeartbeats 4000000 in
theorem lexLays_many (n : Nat) (A : Option Addr) (c : Nat) (w : World) (hn : 4005 < n) :
    Calls Tryz.prog 38 #[.slice A n c] w fun e w' => e = .returned (.bool true) ∧ Below w.heap.size w w' := by
  have h1 : decide ((n : Int) > 4005) = true := by simp; omega
  have h2 : decide (4005 < (n : Int)) = true := by simp; omega
  go_enter Tryz.func38, Tryz.ntmps38
  go_wp2
  go_ret
  exact ⟨rfl, (Below.refl _ w).alloc (Nat.le_refl _) _⟩
set_option maxRecDepth 100000 in
set_option maxHeartbeats 16000000 in
theorem lexLays_any (l : List Tok) (A : Option Addr) (c : Nat) (w : World) (ht : Pow w) (hT : SrcG A l w) (hc : l.length ≤ c) (hA : A = none → l = [] ∧ c = 0) :
    Calls Tryz.prog 38 #[.slice A l.length c] w fun e w' => e = .returned (.bool true) ∧ Below w.heap.size w w' := by
  by_cases hbig : 4005 < l.length
  · exact lexLays_many _ A c w hbig
  · have HB0 : Aside0 (Below w.heap.size w (w.alloc (.cells #[.func (.func 71) #[] #[]] 43))) := ⟨(Below.refl _ w).alloc (Nat.le_refl _) _⟩
    have HCT := Aside0.mk (contains72_any l A c w.heap.size _ (by omega) (hT.below HB0.out) (heap_new w (.cells #[.func (.func 71) #[] #[]] 43)))
    by_cases hoff : l.any offT = true
    · rw [hoff] at HCT
      obtain ⟨n, hn⟩ : ∃ n, l.length = n := ⟨_, rfl⟩
      rw [hn] at HCT hbig ⊢
      have h1 : decide ((n : Int) > 4005) = false := by simp; omega
      have h2 : decide (4005 < (n : Int)) = false := by simp; omega
      clear hn hT hoff hA hc
      go_enter Tryz.func38, Tryz.ntmps38
      go_wp2_with (go_at_call 72; (with_reducible refine HCT.out.mono ?_); rintro e w1 ⟨rfl, hb⟩; have HB1 := Aside0.mk (HB0.out.trans (hb.mono HB0.out.size)); clear hb)
      go_ret
      exact ⟨rfl, HB1.out⟩
    · have hoff2 : l.any offT = false := by simpa using hoff
      rw [hoff2] at HCT
      have hz : ∀ t ∈ l, t.text.size ≤ 65536 := fun t ht => by
        have h9 : offT t = false := by
          cases h8 : offT t with
          | false => rfl
          | true => exact absurd (List.any_eq_true.2 ⟨t, ht, h8⟩) hoff
        unfold offT at h9
        simp only [Bool.or_eq_false_iff, decide_eq_false_iff_not] at h9
        omega
      have HT := Aside0.mk ht
      have HS := Aside0.mk hT
      have HCL := Aside0.mk (fun W (hb : Below w.heap.size w W) => cloneG_any l A c W (by omega) (hT.below hb) hA)
      have HOU := Aside0.mk (fun W (hb : Below w.heap.size w W) => ours_any l A c W (by omega) (hT.below hb))
      have HRL := Aside0.mk (fun O c' W (h1 : l.length ≤ c') (h2 : SrcC O l W) => refLayR_any l O c' W (by omega) hz h1 h2)
      have HRS := Aside0.mk (fun O c' W (h2 : SrcC O l W) => refSetR_any l O c' W (by omega) hz h2)
      have HRF := Aside0.mk (fun O c' W (h2 : SrcC O l W) => refFlatR_any l O c' W (by omega) hz h2)
      have HLY := Aside0.mk (fun M cm W (hp : Pow W) (hm : SrcT M cm l W) => layR_any l M cm W hp (by omega) hz hm)
      have HSE := Aside0.mk (fun M cm W (hp : Pow W) (hm : SrcT M cm l W) => setR_any l M cm W hp (by omega) hz hm)
      have HFL := Aside0.mk (fun M cm W (hp : Pow W) (hm : SrcT M cm l W) => flatR_any l M cm W hp (by omega) hz hm)
      have HEG := Aside0.mk (fun M cm W (h1 : SrcC M l W) (h2 : l.length ≤ cm) (h3 : SrcG A l W) => equalG_any l (by omega) M A cm c W h1 h2 h3 hc)
      have hol := layR_len l
      have HTH := Aside0.mk (fun A' c' W (h : SrcC A' (layR l).1 W) => theirs_any (layR l).1 A' c' W (by omega) h)
      have HEQ := Aside0.mk (fun A0 A1 c0 c1 W => equal_any (layR l).1 (by omega) A0 A1 c0 c1 W)
      unfold TokRes at HLY
      unfold RefRes at HRL
      generalize layR l = P at HRL HLY HTH HEQ hol
      obtain ⟨out, at9, e9⟩ := P
      generalize setR l = S9 at HRS HSE
      obtain ⟨s8, e8⟩ := S9
      generalize flatR l = F9 at HRF HFL
      obtain ⟨s7, e7⟩ := F9
      simp only at HRL HLY HTH HEQ hol HRS HSE HRF HFL
      obtain ⟨n, hn⟩ : ∃ n, l.length = n := ⟨_, rfl⟩
      rw [hn] at HCT hbig HCL HOU HRL HRS HRF HLY HSE HFL HEG ⊢
      have h1 : decide ((n : Int) > 4005) = false := by simp; omega
      have h2 : decide (4005 < (n : Int)) = false := by simp; omega
      have x1 : (e9 != e9) = false := bne_self_eq_false _
      have x2 : (at9 != at9) = false := bne_self_eq_false _
      have x3 : (e8 != e8) = false := bne_self_eq_false _
      have x4 : (e7 != e7) = false := bne_self_eq_false _
      have x5 : (s8.toList != s8.toList) = false := bne_self_eq_false _
      have x6 : (s7.toList != s7.toList) = false := bne_self_eq_false _
      clear hn hT hoff hoff2 hA hc hz ht
      go_enter Tryz.func38, Tryz.ntmps38
      go_upto_region 5 with (first
        | (go_at_call 72; (with_reducible refine HCT.out.mono ?_); rintro e w1 ⟨rfl, hb⟩; have HB1 := Aside0.mk (HB0.out.trans (hb.mono HB0.out.size)); clear hb)
        | (go_at_call 62; (refine (HCL.out _ HB1.out).mono ?_); rintro e w2 ⟨M, cm, rfl, hcm, hm, hb⟩; have HM := Aside0.mk hm; have HB2 := Aside0.mk (HB1.out.trans (hb.mono HB1.out.size)); clear hm hb))
      go_upto_region 6 with (first
        | (go_at_call 75; (refine (HOU.out _ HB2.out).mono ?_); rintro e w3 ⟨O3, c3, rfl, hc3, ho, hb⟩; have HO3 := Aside0.mk ho; have HC3 := Aside0.mk hb; have HB3 := Aside0.mk (HB2.out.trans (hb.mono HB2.out.size)); clear ho hb)
        | (go_at_call 74; (refine (HRL.out _ _ _ hc3 HO3.out).mono ?_); rintro e w4 ⟨A4, c4, rfl, ho, hb⟩; have HA4 := Aside0.mk ho; have HC4 := Aside0.mk (HC3.out.trans (hb.mono HC3.out.size)); have HB4 := Aside0.mk (HB3.out.trans (hb.mono HB3.out.size)); clear ho hb))
      go_upto_region 7 with (first
        | (go_at_call 75; (refine (HOU.out _ HB4.out).mono ?_); rintro e w5 ⟨O5, c5, rfl, hc5, ho, hb⟩; have HO5 := Aside0.mk ho; have HD5 := Aside0.mk hb; have HC5 := Aside0.mk (HC4.out.trans (hb.mono HC4.out.size)); have HB5 := Aside0.mk (HB4.out.trans (hb.mono HB4.out.size)); clear ho hb)
        | (go_at_call 76; (refine (HRS.out _ _ _ HO5.out).mono ?_); rintro e w6 ⟨rfl, hb⟩; have HD6 := Aside0.mk (HD5.out.trans (hb.mono HD5.out.size)); have HC6 := Aside0.mk (HC5.out.trans (hb.mono HC5.out.size)); have HB6 := Aside0.mk (HB5.out.trans (hb.mono HB5.out.size)); clear hb))
      go_upto_region 8 with (first
        | (go_at_call 75; (refine (HOU.out _ HB6.out).mono ?_); rintro e w7 ⟨O7, c7, rfl, hc7, ho, hb⟩; have HO7 := Aside0.mk ho; have HD7 := Aside0.mk (HD6.out.trans (hb.mono HD6.out.size)); have HC7 := Aside0.mk (HC6.out.trans (hb.mono HC6.out.size)); have HB7 := Aside0.mk (HB6.out.trans (hb.mono HB6.out.size)); clear ho hb)
        | (go_at_call 77; (refine (HRF.out _ _ _ HO7.out).mono ?_); rintro e w8 ⟨rfl, hb⟩; have HD8 := Aside0.mk (HD7.out.trans (hb.mono HD7.out.size)); have HC8 := Aside0.mk (HC7.out.trans (hb.mono HC7.out.size)); have HB8 := Aside0.mk (HB7.out.trans (hb.mono HB7.out.size)); clear hb))
      have HM8 := Aside0.mk (HM.out.below HC8.out)
      clear HM HO3 HO5 HO7 HC3 HC4 HC5 HC6 HC7 HB0 HB1 HB2 HB3 HB4 HB5 HB6 HB7 HD5 HD6 HD7 HCT HCL HOU HRL HRS HRF
      go_upto_region 9 with (go_at_call 56; (refine (HLY.out _ _ _ (HT.out.on HB8.out) HM8.out).mono ?_); rintro e w9 ⟨v9, rfl, hr, hb⟩; obtain ⟨A9, c9, rfl, hc9, hC⟩ := srcC_reads hr; have HR9 := Aside0.mk hr; have HA9 := Aside0.mk hC; have HF9 := Aside0.mk hb; have HM9 := Aside0.mk (HM8.out.below hb); have HD9 := Aside0.mk (HD8.out.trans (hb.mono HD8.out.size)); have HB9 := Aside0.mk (HB8.out.trans (hb.mono HB8.out.size)); clear hr hC hb)
      go_upto_region 10 with (go_at_call 36; (refine (HSE.out _ _ _ (HT.out.on HB9.out) HM9.out).mono ?_); rintro e w10 ⟨rfl, hb⟩; have HE10 := Aside0.mk hb; have HM10 := Aside0.mk (HM9.out.below hb); have HD10 := Aside0.mk (HD9.out.trans (hb.mono HD9.out.size)); have HB10 := Aside0.mk (HB9.out.trans (hb.mono HB9.out.size)); clear hb)
      go_upto_region 11 with (go_at_call 37; (refine (HFL.out _ _ _ (HT.out.on HB10.out) HM10.out).mono ?_); rintro e w11 ⟨rfl, hb⟩; have HE11 := Aside0.mk (HE10.out.trans (hb.mono HE10.out.size)); have HD11 := Aside0.mk (HD10.out.trans (hb.mono HD10.out.size)); have HB11 := Aside0.mk (HB10.out.trans (hb.mono HB10.out.size)); clear hb)
      have HA4b := Aside0.mk (HA4.out.below HD11.out)
      go_upto_region 13 with (first
        | (go_at_call 41; (refine (HTH.out _ _ _ HA4b.out).mono ?_); rintro e w12 ⟨v12, rfl, hr, hb⟩; obtain ⟨A12, c12, rfl, hc12, hC⟩ := srcC_reads hr; have HA12 := Aside0.mk hC; have HE12 := Aside0.mk (HE11.out.trans (hb.mono HE11.out.size)); have HA9b := Aside0.mk (HA9.out.below HE12.out); clear hr hC hb)
        | (go_at_call 29; (refine (HEQ.out _ _ _ _ _ HA9b.out hc9 HA12.out hc12).mono ?_); rintro e w13 ⟨rfl, hb⟩; have HE13 := Aside0.mk (HE12.out.trans (hb.mono HE12.out.size)); clear hb))
      obtain ⟨W14, hcl, hb14⟩ := clear_any HR9.out HE13.out (HF9.out.trans (HE13.out.mono HF9.out.size)) (Nat.le_refl _)
      have HM14 := Aside0.mk (HM8.out.below hb14)
      have HB14 := Aside0.mk (HB8.out.trans (hb14.mono HB8.out.size))
      clear hb14
      go_upto_region 14 with (simp only [hcl])
      clear hcl
      go_wp2_with (go_at_call 29; (refine (HEG.out _ _ _ HM14.out.srcC hcm (HS.out.below HB14.out)).mono ?_); rintro e w15 ⟨rfl, hb⟩; have HB15 := Aside0.mk (HB14.out.trans (hb.mono HB14.out.size)); clear hb)
      go_ret
      exact ⟨rfl, HB15.out⟩
end Go.Proofs.YtfnhjdehlikbaaaGreatDoor.Lx
namespace Go.Proofs.YtfnhjdehlikbaaaGreatDoor.Lx
def linesL : List UInt8 → List Nat
  | [] => [0]
  | b :: l => if b = 10 then 0 :: linesL l else match linesL l with | [] => [] | h :: t => (h + 1) :: t
theorem linesL_ne : ∀ l, ∃ h t, linesL l = h :: t := by
  intro l
  induction l with
  | nil => exact ⟨0, [], rfl⟩
  | cons b l ih =>
    obtain ⟨h, t, e⟩ := ih
    simp only [linesL, e]
    split
    · exact ⟨_, _, rfl⟩
    · exact ⟨_, _, rfl⟩
theorem split_lens : ∀ l : List UInt8, (Lib.splitK [10] 0 (Lib.count l [10]) l).map List.length = linesL l := by
  intro l
  induction l with
  | nil => rw [Lib.count_miss (by simp [Lib.index])]; rfl
  | cons b l ih =>
    by_cases hb : b = 10
    · subst hb
      have hix : Lib.index (10 :: l) [10] = ((0 : Nat) : Int) := by rw [Lib.index]; simp [List.isPrefixOf]
      rw [Lib.count_cons_eq, Nat.add_comm, Lib.splitK, hix]
      simp only [linesL, if_true]
      rw [← ih]
      simp
    · have hp : ([10] : List UInt8).isPrefixOf (b :: l) = false := by simp [List.isPrefixOf, Ne.symm hb]
      have hix : Lib.index (b :: l) [10] = if Lib.index l [10] == -1 then -1 else Lib.index l [10] + 1 := by rw [Lib.index, hp]; simp
      rw [Lib.count_cons_ne b 10 l hb]
      simp only [linesL, if_neg hb]
      by_cases hm : Lib.index l [10] = -1
      · rw [Lib.count_miss hm] at ih ⊢
        rw [← ih]
        simp [Lib.splitK]
      · have hge := Lib.index_ge l [10]
        obtain ⟨j, hj⟩ : ∃ j : Nat, Lib.index l [10] = j := ⟨(Lib.index l [10]).toNat, by omega⟩
        rw [if_neg (by simp; omega), hj] at hix
        rw [Lib.count_hit (by simp) hj] at ih ⊢
        rw [Nat.add_comm, Lib.splitK, hj] at ih
        rw [Nat.add_comm, Lib.splitK, hix]
        rw [if_neg (by simp)] at ih
        rw [if_neg (by simp; omega)]
        have e1 : ((j : Int) + 1).toNat = j + 1 := by omega
        have e2 : ((j : Int)).toNat = j := by omega
        rw [e1]
        rw [e2] at ih
        rw [← ih]
        simp [List.take_succ_cons]
theorem lines_lens (s : ByteArray) : (linesF s).map ByteArray.size = linesL s.data.toList := by
  have h := congrArg (List.map List.length) (Lib.splitB_data ⟨#[10]⟩ 0 (Lib.countB s ⟨#[10]⟩) s)
  rw [List.map_map] at h
  have h2 : (linesF s).map ByteArray.size = (linesF s).map (List.length ∘ fun x => x.data.toList) := by
    apply List.map_congr_left
    intro x _
    exact (len_data x).symm
  rw [h2]
  unfold linesF
  exact h.trans (split_lens _)
def idxG (line col : Int) : Int × Int → List UInt8 → Int → Int × Int
  | p, [], i => if p.1 = line ∧ p.2 = col then (i, 0) else (0, 3)
  | p, b :: l, i => if p.1 = line ∧ p.2 = col then (i, 0) else idxG line col (if b = 10 then (p.1 + 1, 0) else (p.1, p.2 + 1)) l (i + 1)
def sumN (m : List Nat) (k : Nat) : Int := (((m.take k).map (· + 1)).sum : Nat)
theorem sumN_zero (m : List Nat) : sumN m 0 = 0 := by simp [sumN]
theorem sumN_succ (h : Nat) (m : List Nat) (k : Nat) : sumN (h :: m) (k + 1) = (h : Int) + 1 + sumN m k := by
  simp [sumN]
theorem idxG_at (line col : Int) : ∀ (l : List UInt8) (a c i : Int), idxG line col (a, c) l i =
    if line < a ∨ ((linesL l).length : Int) ≤ line - a ∨ col < (if line = a then c else 0) ∨ (((linesL l)[(line - a).toNat]?.getD 0 : Nat) : Int) + (if line = a then c else 0) < col then (0, 3)
    else (i + (col - (if line = a then c else 0)) + sumN (linesL l) (line - a).toNat, 0) := by
  intro l
  induction l with
  | nil =>
    intro a c i
    simp only [idxG, linesL]
    by_cases h1 : line = a
    · subst h1
      simp only [if_true, true_and, Int.sub_self, Int.toNat_zero]
      by_cases h2 : c = col
      · subst h2
        rw [if_pos rfl, if_neg (by simp), sumN_zero]
        simp
      · rw [if_neg h2, if_pos (by simp; omega)]
    · rw [if_neg (show ¬ (a = line ∧ c = col) by omega)]
      refine (if_pos ?_).symm
      have e0 : (([0] : List Nat).length : Int) = 1 := rfl
      omega
  | cons b l ih =>
    intro a c i
    simp only [idxG]
    by_cases hb : b = 10
    · subst hb
      simp only [linesL, if_true]
      by_cases h1 : line = a
      · subst h1
        simp only [if_true, true_and, Int.sub_self, Int.toNat_zero]
        by_cases h2 : c = col
        · subst h2
          rw [if_pos rfl, if_neg (by simp), sumN_zero]
          simp
        · rw [if_neg h2, ih, if_pos (by omega), if_pos (by simp; omega)]
      · rw [if_neg (by omega), ih]
        by_cases h3 : line < a
        · rw [if_pos (by omega), if_pos (by omega)]
        · obtain ⟨k, rfl⟩ : ∃ k : Nat, line = a + 1 + k := ⟨(line - a - 1).toNat, by omega⟩
          have e1 : (a + 1 + (k : Int) - a).toNat = k + 1 := by omega
          have e2 : (a + 1 + (k : Int) - (a + 1)).toNat = k := by omega
          have e3 : ∀ c : Int, (if a + 1 + (k : Int) = a then c else 0) = 0 := fun c => if_neg (by omega)
          have e4 : (if a + 1 + (k : Int) = a + 1 then (0 : Int) else 0) = 0 := by split <;> rfl
          rw [e1, e2, e3, e4, sumN_succ, List.getElem?_cons_succ, List.length_cons]
          by_cases hc : ((linesL l).length : Int) ≤ k ∨ col < 0 ∨ (((linesL l)[k]?.getD 0 : Nat) : Int) + 0 < col
          · rw [if_pos (by omega), if_pos (by omega)]
          · rw [if_neg (by omega), if_neg (by omega)]
            exact Prod.ext (by simp only; omega) rfl
    · obtain ⟨h, t, e⟩ := linesL_ne l
      simp only [linesL, if_neg hb, e]
      by_cases h1 : line = a
      · subst h1
        simp only [if_true, true_and, Int.sub_self, Int.toNat_zero]
        by_cases h2 : c = col
        · subst h2
          rw [if_pos rfl, if_neg (by simp; omega), sumN_zero]
          simp
        · rw [if_neg h2, ih, e]
          simp only [if_true, Int.sub_self, Int.toNat_zero, List.getElem?_cons_zero, Option.getD_some, sumN_zero, List.length_cons]
          by_cases hc : col < c ∨ ((h + 1 : Nat) : Int) + c < col
          · rw [if_pos (by omega), if_pos (by omega)]
          · rw [if_neg (by omega), if_neg (by omega)]
            exact Prod.ext (by simp only; omega) rfl
      · rw [if_neg (by omega), ih, e]
        by_cases h3 : line < a
        · rw [if_pos (by omega), if_pos (by omega)]
        · obtain ⟨k, rfl⟩ : ∃ k : Nat, line = a + 1 + k := ⟨(line - a - 1).toNat, by omega⟩
          have e1 : (a + 1 + (k : Int) - a).toNat = k + 1 := by omega
          have e3 : ∀ c : Int, (if a + 1 + (k : Int) = a then c else 0) = 0 := fun c => if_neg (by omega)
          rw [e1, e3, e3, sumN_succ, sumN_succ, List.getElem?_cons_succ, List.getElem?_cons_succ, List.length_cons, List.length_cons]
          by_cases hc : ((t.length + 1 : Nat) : Int) ≤ a + 1 + k - a ∨ col < 0 ∨ ((t[k]?.getD 0 : Nat) : Int) + 0 < col
          · rw [if_pos (by omega), if_pos (by omega)]
          · rw [if_neg (by omega), if_neg (by omega)]
            exact Prod.ext (by simp only; omega) rfl
theorem sumL_sumN (l : List ByteArray) (k : Nat) : sumL l k = sumN (l.map ByteArray.size) k := by
  unfold sumL sumN
  rw [← List.map_take, List.map_map]
  rfl
theorem getD_size (l : List ByteArray) (k : Nat) : (l.map ByteArray.size)[k]?.getD 0 = (l[k]?.getD ⟨#[]⟩).size := by
  rw [List.getElem?_map]
  cases l[k]? <;> rfl
theorem indexF_steps (s : ByteArray) (line col : Int) (h : ¬ (65536 : Int) < s.size) : indexF s line col = idxG line col (0, 0) s.data.toList 0 := by
  rw [idxG_at, ← lines_lens, List.length_map, getD_size, ← sumL_sumN]
  unfold indexF
  rw [if_neg h]
  have e : (if line = 0 then (0 : Int) else 0) = 0 := by split <;> rfl
  rw [e, Int.sub_zero, Int.sub_zero, Int.zero_add]
  by_cases hc : line < 0 ∨ ((linesF s).length : Int) ≤ line ∨ col < 0 ∨ (((linesF s)[line.toNat]?.getD ⟨#[]⟩).size : Int) < col
  · rw [if_pos hc, if_pos (by omega)]
  · rw [if_neg hc, if_neg (by omega)]
end Go.Proofs.YtfnhjdehlikbaaaGreatDoor.Lx
namespace Go.Proofs.YtfnhjdehlikbaaaGreatDoor.Lx
open Go.RowKit Go.Proofs.YtfnhjdehlikbaaaGreatDoorW.PrintWords
theorem posOf_step (s : ByteArray) (i : Nat) (h : i < s.size) : posOf s (i + 1 : Nat) = if bt s i = 10 then ((posOf s i).1 + 1, 0) else ((posOf s i).1, (posOf s i).2 + 1) := by
  unfold posOf
  rw [Int.toNat_natCast, Int.toNat_natCast]
  have hl : i < s.data.toList.length := by rw [len_data]; exact h
  rw [List.take_succ_eq_append_getElem hl, adv_snoc]
  have e : bt s i = ((s.data.toList[i]).toNat : Int) := (bt_at s i h).symm
  rw [e]
  by_cases hb : s.data.toList[i] = 10
  · rw [if_pos hb, hb, if_pos (by decide)]
  · rw [if_neg hb, if_neg (fun hh => hb (UInt8.toNat_inj.1 (by show _ = 10; omega)))]
set_option maxRecDepth 100000 in
set_option maxHeartbeats 8000000 in
theorem refPlace_any (s : ByteArray) (a : Int) (w : World) : Calls Tryz.prog 78 #[.string s, .int .i64 a] w fun e w' => e = .returned (.tuple #[.int .i64 (placeF s a).1, .int .i64 (placeF s a).2.1, .int .i64 (placeF s a).2.2]) ∧ w = w' := by
  obtain ⟨r, hr⟩ : ∃ r, placeF s a = r := ⟨_, rfl⟩
  rw [hr]
  unfold placeF at hr
  by_cases h1 : (65536 : Int) < s.size
  · rw [if_pos h1] at hr
    subst hr
    go_enter Tryz.func78, Tryz.ntmps78
    go_wp2
    go_ret3
    exact ⟨rfl, rfl⟩
  · rw [if_neg h1] at hr
    by_cases h2 : a < 0
    · rw [if_pos (.inl h2)] at hr
      subst hr
      go_enter Tryz.func78, Tryz.ntmps78
      go_wp2
      go_ret3
      exact ⟨rfl, rfl⟩
    · by_cases h3 : (s.size : Int) < a
      · rw [if_pos (.inr h3)] at hr
        subst hr
        go_enter Tryz.func78, Tryz.ntmps78
        go_wp2
        go_ret3
        exact ⟨rfl, rfl⟩
      · rw [if_neg (by omega)] at hr
        obtain ⟨n, rfl⟩ : ∃ n : Nat, a = (n : Int) := ⟨a.toNat, by omega⟩
        have HR := Aside0.mk hr
        clear hr
        go_enter Tryz.func78, Tryz.ntmps78
        go_wp2
        go_loopg [7, 8, 9] n (fun f t7 t8 t9 wr => wr = w ∧ ∃ (ln co : Int) (i : Nat), t7 = .int .i64 ln ∧ t8 = .int .i64 co ∧ t9 = .int .i64 (i : Int) ∧ i + f = n ∧ Aside0 (posOf s i = (ln, co)))
        case atStart => exact ⟨rfl, 0, 0, 0, rfl, rfl, rfl, by omega, ⟨rfl⟩⟩
        case round =>
          obtain ⟨rfl, ln, co, i, rfl, rfl, rfl, hif, HP⟩ := hrel
          have hpl := posOf_le s i
          rw [HP.out] at hpl
          simp only at hpl
          by_cases hi : i < n
          · obtain ⟨f, rfl⟩ : ∃ f, gk = f + 1 := ⟨gk - 1, by omega⟩
            have hps := posOf_step s i (by omega)
            rw [HP.out] at hps
            have hi2 : (i : Int) < (n : Int) := by omega
            have hlt2 : (i : Int) < (s.size : Int) := by omega
            have wa : IntKind.i64.wrap (ln + 1) = ln + 1 := IntWalk.i64_in _ (by omega)
            have wb : IntKind.i64.wrap ((i : Int) + 1) = (i : Int) + 1 := IntWalk.i64_in _ (by omega)
            have wc : IntKind.i64.wrap (co + 1) = co + 1 := IntWalk.i64_in _ (by omega)
            obtain ⟨q, hq⟩ : ∃ q, bt s i = q := ⟨_, rfl⟩
            have hx : ∀ h : i < s.size, ((s[i]'h).toNat : Int) = q := fun h => (bt_at s i (by omega)).trans hq
            rw [hq] at hps
            by_cases h10 : q = 10
            · rw [if_pos h10] at hps
              have h10b : (q == 10) = true := by rw [h10]; rfl
              have HPS := Aside0.mk hps
              clear hps hpl h10 hq
              go_wp2
              go_roundg f
              case measure => omega
              case rel => exact ⟨rfl, ln + 1, 0, i + 1, by go_num, by go_num, by go_num, by omega, HPS⟩
            · rw [if_neg h10] at hps
              have h10b : (q == 10) = false := beq_eq_false_iff_ne.2 h10
              have HPS := Aside0.mk hps
              clear hps hpl h10 hq
              go_wp2
              go_roundg f
              case measure => omega
              case rel => exact ⟨rfl, ln, co + 1, i + 1, by go_num, by go_num, by go_num, by omega, HPS⟩
          · obtain rfl : i = n := by omega
            have hr := HR.out
            rw [HP.out] at hr
            subst hr
            go_wp2
            go_ret3
            exact ⟨rfl, rfl⟩
theorem idxG_hit {line col : Int} (l : List UInt8) (i : Int) : idxG line col (line, col) l i = (i, 0) := by
  cases l <;> simp [idxG]
theorem idxG_miss {line col a c : Int} (b : UInt8) (l : List UInt8) (i : Int) (h : ¬ (a = line ∧ c = col)) : idxG line col (a, c) (b :: l) i = idxG line col (if b = 10 then (a + 1, 0) else (a, c + 1)) l (i + 1) := by
  simp only [idxG, if_neg h]
structure IdxAt (s : ByteArray) (line col : Int) (R : Int × Int) (ln co : Int) (i : Nat) : Prop where
  low : i ≤ s.size → posOf s i = (ln, co) ∧ idxG line col (ln, co) (s.data.toList.drop i) i = R
  high : i = s.size + 1 → R = (0, 3)
set_option maxRecDepth 100000 in
set_option maxHeartbeats 8000000 in
theorem refIndex_any (s : ByteArray) (line col : Int) (w : World) : Calls Tryz.prog 79 #[.string s, .int .i64 line, .int .i64 col] w fun e w' => e = .returned (.tuple #[.int .i64 (indexF s line col).1, .int .i64 (indexF s line col).2]) ∧ w = w' := by
  by_cases h1 : (65536 : Int) < s.size
  · have hr : indexF s line col = (0, 11) := by unfold indexF; rw [if_pos h1]
    rw [hr]
    go_enter Tryz.func79, Tryz.ntmps79
    go_wp2
    go_ret2
    exact ⟨rfl, rfl⟩
  · obtain ⟨R, hR⟩ : ∃ R, indexF s line col = R := ⟨_, rfl⟩
    rw [hR]
    rw [indexF_steps s line col h1] at hR
    have HI0 : Aside0 (IdxAt s line col R 0 0 0) := ⟨fun _ => ⟨rfl, hR⟩, fun h => by omega⟩
    clear hR
    go_enter Tryz.func79, Tryz.ntmps79
    go_wp2
    go_loopg [8, 9, 10] (s.size + 1) (fun f t8 t9 t10 wr => wr = w ∧ ∃ (ln co : Int) (i : Nat), t8 = .int .i64 ln ∧ t9 = .int .i64 co ∧ t10 = .int .i64 (i : Int) ∧ i + f = s.size + 1 ∧ Aside0 (IdxAt s line col R ln co i))
    case atStart => exact ⟨rfl, 0, 0, 0, rfl, rfl, rfl, by omega, HI0⟩
    case round =>
      clear HI0
      obtain ⟨rfl, ln, co, i, rfl, rfl, rfl, hif, HA⟩ := hrel
      by_cases hi : i ≤ s.size
      · obtain ⟨f, rfl⟩ : ∃ f, gk = f + 1 := ⟨gk - 1, by omega⟩
        obtain ⟨hp, hx⟩ := HA.out.low hi
        have hpl := posOf_le s i
        rw [hp] at hpl
        simp only at hpl
        have hi2 : (i : Int) ≤ (s.size : Int) := by omega
        have wa : IntKind.i64.wrap (ln + 1) = ln + 1 := IntWalk.i64_in _ (by omega)
        have wb : IntKind.i64.wrap ((i : Int) + 1) = (i : Int) + 1 := IntWalk.i64_in _ (by omega)
        have wc : IntKind.i64.wrap (co + 1) = co + 1 := IntWalk.i64_in _ (by omega)
        by_cases hm : ln = line ∧ co = col
        · obtain ⟨e1, e2⟩ := hm
          subst e1 e2
          rw [idxG_hit] at hx
          have hR := hx.symm
          subst hR
          have m1 : (ln == ln) = true := beq_self_eq_true _
          have m2 : (co == co) = true := beq_self_eq_true _
          clear hp hx hpl HA
          go_wp2
          go_ret2
          exact ⟨rfl, rfl⟩
        · have hm2 : ((ln == line) && (co == col)) = false := by
            rw [Bool.and_eq_false_iff, beq_eq_false_iff_ne, beq_eq_false_iff_ne]
            by_cases h : ln = line
            · exact .inr (fun h2 => hm ⟨h, h2⟩)
            · exact .inl h
          by_cases hlt : i < s.size
          · have hlt2 : (i : Int) < (s.size : Int) := by omega
            have hps := posOf_step s i hlt
            rw [hp] at hps
            rw [drop_cons s i hlt, idxG_miss _ _ _ hm] at hx
            obtain ⟨q, hq⟩ : ∃ q, bt s i = q := ⟨_, rfl⟩
            have hbx : ∀ h : i < s.size, ((s[i]'h).toNat : Int) = q := fun h => (bt_at s i (by omega)).trans hq
            have hb1 := hbx hlt
            rw [hq] at hps
            have hlt3 : decide ((i : Int) < (s.size : Int)) = true := decide_eq_true hlt2
            by_cases h10 : q = 10
            · have hu : s[i]'hlt = 10 := UInt8.toNat_inj.1 (by show _ = 10; omega)
              rw [if_pos h10] at hps
              rw [hu, if_pos rfl] at hx
              have h10b : (q == 10) = true := by rw [h10]; rfl
              have HN : Aside0 (IdxAt s line col R (ln + 1) 0 (i + 1)) := ⟨fun _ => ⟨hps, by rw [← hx]; congr 1⟩, fun h => by omega⟩
              clear hps hpl h10 hq hb1 hu hx hp HA hm
              cases m1 : (ln == line) with
              | true =>
                have m2 : (co == col) = false := by rw [m1] at hm2; exact hm2
                go_wp2
                go_roundg f
                case measure => omega
                case rel => exact ⟨rfl, ln + 1, 0, i + 1, by go_num, by go_num, by go_num, by omega, HN⟩
              | false =>
                go_wp2
                go_roundg f
                case measure => omega
                case rel => exact ⟨rfl, ln + 1, 0, i + 1, by go_num, by go_num, by go_num, by omega, HN⟩
            · have hu : ¬ s[i]'hlt = 10 := fun h => h10 (by rw [← hb1, h]; rfl)
              rw [if_neg h10] at hps
              rw [if_neg hu] at hx
              have h10b : (q == 10) = false := beq_eq_false_iff_ne.2 h10
              have HN : Aside0 (IdxAt s line col R ln (co + 1) (i + 1)) := ⟨fun _ => ⟨hps, by rw [← hx]; congr 1⟩, fun h => by omega⟩
              clear hps hpl h10 hq hb1 hu hx hp HA hm
              cases m1 : (ln == line) with
              | true =>
                have m2 : (co == col) = false := by rw [m1] at hm2; exact hm2
                go_wp2
                go_roundg f
                case measure => omega
                case rel => exact ⟨rfl, ln, co + 1, i + 1, by go_num, by go_num, by go_num, by omega, HN⟩
              | false =>
                go_wp2
                go_roundg f
                case measure => omega
                case rel => exact ⟨rfl, ln, co + 1, i + 1, by go_num, by go_num, by go_num, by omega, HN⟩
          · obtain rfl : i = s.size := by omega
            have hlt3 : decide ((s.size : Int) < (s.size : Int)) = false := by simp
            have hd : s.data.toList.drop s.size = [] := List.drop_eq_nil_of_le (by rw [len_data]; exact Nat.le_refl _)
            rw [hd] at hx
            have hR : R = (0, 3) := by rw [← hx]; simp only [idxG, if_neg hm]
            have HN : Aside0 (IdxAt s line col R ln (co + 1) (s.size + 1)) := ⟨fun h => by omega, fun _ => hR⟩
            clear hpl hx hp HA hm hR hd
            cases m1 : (ln == line) with
            | true =>
              have m2 : (co == col) = false := by rw [m1] at hm2; exact hm2
              go_wp2
              go_roundg f
              case measure => omega
              case rel => exact ⟨rfl, ln, co + 1, s.size + 1, by go_num, by go_num, by go_num, by omega, HN⟩
            | false =>
              go_wp2
              go_roundg f
              case measure => omega
              case rel => exact ⟨rfl, ln, co + 1, s.size + 1, by go_num, by go_num, by go_num, by omega, HN⟩
      · obtain rfl : i = s.size + 1 := by omega
        have hR := HA.out.high rfl
        subst hR
        have hn : ¬ (((s.size + 1 : Nat) : Int) ≤ (s.size : Int)) := by omega
        go_wp2
        go_ret2
        exact ⟨rfl, rfl⟩
theorem off2_any (s : ByteArray) (w : World) : Calls Tryz.prog 43 #[.string s] w fun e w' => e = .returned (.bool (decide ((s.size : Int) > 65600))) ∧ w = w' := by
  go_enter Tryz.func43, Tryz.ntmps43
  go_wp2
  go_ret
  exact ⟨rfl, rfl⟩
set_option maxRecDepth 100000 in
set_option maxHeartbeats 8000000 in
theorem lexPlaces_any (s : ByteArray) (a line col : Int) (w : World) : Calls Tryz.prog 39 #[.string s, .int .i64 a, .int .i64 line, .int .i64 col] w fun e w' => e = .returned (.bool true) ∧ Below w.heap.size w w' := by
  have HOFF := Aside0.mk (fun W => off2_any s W)
  by_cases hbig : (s.size : Int) > 65600
  · go_enter Tryz.func39, Tryz.ntmps39
    go_wp2_with (go_at_call 43; (with_reducible refine (HOFF.out _).mono ?_); rintro e w1 ⟨rfl, rfl⟩)
    go_ret
    exact ⟨rfl, Below.refl _ _⟩
  · have HP := Aside0.mk (fun W => place_any s a W)
    have HQ := Aside0.mk (fun W => refPlace_any s a W)
    have HI := Aside0.mk (fun W => indexF_any s line col W (by omega))
    have HJ := Aside0.mk (fun W => refIndex_any s line col W)
    generalize placeF s a = p at HP HQ
    generalize indexF s line col = q at HI HJ
    obtain ⟨p1, p2, p3⟩ := p
    obtain ⟨q1, q2⟩ := q
    simp only at HP HQ HI HJ
    go_enter Tryz.func39, Tryz.ntmps39
    go_wp2_with (first | (go_at_call 43; (with_reducible refine (HOFF.out _).mono ?_); rintro e w1 ⟨rfl, rfl⟩) | (go_at_call 78; (with_reducible refine (HQ.out _).mono ?_); rintro e w2 ⟨rfl, rfl⟩) | (go_at_call 79; (with_reducible refine (HJ.out _).mono ?_); rintro e w3 ⟨rfl, rfl⟩) | (go_at_call 33; (with_reducible refine (HP.out _).mono ?_); rintro e w4 ⟨rfl, hb4⟩; have HB4 := Aside0.mk hb4; clear hb4) | (go_at_call 34; (with_reducible refine (HI.out _).mono ?_); rintro e w5 ⟨rfl, hb5⟩; have HB5 := Aside0.mk (HB4.out.trans (hb5.mono HB4.out.size)); clear hb5))
    go_ret
    exact ⟨rfl, HB5.out⟩
end Go.Proofs.YtfnhjdehlikbaaaGreatDoor.Lx
