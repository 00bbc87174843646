import Derived.Test.YtfnhjdehlikbaaaGreatDoorMJ
import Derived.Test.YtfnhjdehlikbaaaGreatDoorMK
import Derived.Test.YtfnhjdehlikbaaaGreatDoorMF
import Derived.Test.YtfnhjdehlikbaaaGreatDoorMB
set_option linter.unusedVariables false
set_option linter.unusedSimpArgs false
namespace Go.Proofs.YtfnhjdehlikbaaaGreatDoor.Lx
open Go.RowKit Go.Proofs.YtfnhjdehlikbaaaGreatDoorW.PrintWords
theorem fresh_of_R {W : World} {B : Nat} {v : Value} {l : List Tok} (h : Kd.R kTok 54 W B (fun _ => True) v l) (hne : l ≠ []) : ∃ g c, v = .slice (some ⟨g, 0, none⟩) l.length c ∧ B ≤ g ∧ FreshZ g l W := by
  obtain ⟨_, inner, ho, hr⟩ := h
  rcases ho.2 with ⟨h1, h2⟩ | ⟨g, cap, cur, h1, hB, hh, _, _, _, ht⟩
  · exact absurd (List.eq_nil_of_length_eq_zero h2) hne
  · refine ⟨g, cap, h1, hB, cur, hh, fun i t hi j u hu => ?_⟩
    have hj : j < 6 := by
      have := (List.getElem?_eq_some_iff.1 hu).1
      simpa [Tok.cells] using this
    have hk := hr.2 i t hi
    have hc : (inner.drop (i * 6)).take 6 = t.cells.toList := by
      obtain ⟨a1, b1, e1, rfl, a2, b2, e2, rfl, a3, b3, e3, rfl, a4, b4, e4, rfl, a5, b5, e5, rfl, rfl⟩ := hk
      have e0 : (inner.drop (i * 6)).take 6 = _ := e1
      rw [e0, e2, e3, e4, e5]
      rfl
    have : inner[i * 6 + j]? = some u := by
      rw [← hc, List.getElem?_take_of_lt hj, List.getElem?_drop] at hu
      exact hu
    rw [← ht] at this
    have hlt := (List.getElem?_eq_some_iff.1 this).1
    rw [List.getElem?_take_of_lt (by rw [List.length_take] at hlt; omega)] at this
    simpa using this
theorem env_small : Env Pow :=
  { on := fun _ _ h hb => h.on hb
    raws := fun s W => lexRaws_any s W
    toks := fun s W h => lexTokens_any s W h
    places := fun s a l c W => lexPlaces_any s a l c W
    lays := fun l A c W hk h hc hA => lexLays_any l A c W hk h hc hA
    rep := fun s n W h1 h2 => repeat_any s n W h1 h2 }
theorem env2_small : Env2 Pow rawF tokF :=
  { short := fun s => (rawOk_all s).2
    refRaw := fun s W hs => (refRaw_any s W (by omega)).mono fun e w' ⟨A, c, he, hS, _, hb⟩ => ⟨A, c, he, hS, hb⟩
    raw := fun s W hs => (rawF_any s W (by omega)).mono fun e w' ⟨v, he, hr, hb⟩ => by
      obtain ⟨A, c, rfl, hc, hS⟩ := srcC_reads hr
      exact ⟨A, c, he, hc, hS, hb⟩
    tokens := fun s W hk hs => (tokens_any s W (by omega) hk (rawOk_all s)).mono fun e w' ⟨v, he, _, hb⟩ => ⟨v, he, hb⟩
    theirs := fun l A c W hl hS => (theirs_any l A c W hl hS).mono fun e w' ⟨v, he, hr, hb⟩ => by
      obtain ⟨A', c', hv, hc, hS'⟩ := srcC_reads hr
      refine ⟨A', c', by rw [he, hv], hc, hS', fun hne => ?_, hb⟩
      obtain ⟨g, c2, hv2, hB, hF⟩ := fresh_of_R hr hne
      rw [hv] at hv2
      injection hv2 with e1 e2 e3
      exact ⟨g, e1, hB, hF⟩
    awake := fun W hk => awake_any W hk
    equal := fun l A0 A1 c0 c1 W hl h0 hc0 h1 hc1 => equal_any l (by omega) A0 A1 c0 c1 W h0 hc0 h1 hc1 }
theorem words_small : ∀ s ∈ wordsZ, 1 ≤ (rawF s).1.length := by decide +kernel
theorem aa_all : ∀ z, (z = 3999 ∨ z = 4000 ∨ z = 4001) → z ≤ 4000 → ∃ m a m2 b, rawF (repF ⟨#[97, 32]⟩ z) = (m, a, 0) ∧ tokF (repF ⟨#[97, 32]⟩ z) = (m2, b, 0) := fun z hz h4 => aa_good (n := z) (by omega) h4
theorem lawSmall_any (w : World) (ht : Pow w) : Calls Tryz.prog 11 #[] w fun e w' => e = .returned (.bool true) ∧ Below w.heap.size w w' :=
  lawSmall_go ⟨env_small⟩ ⟨env2_small⟩ ⟨aa_all⟩ ⟨aa_bad⟩ ⟨words_small⟩ w ⟨ht⟩
end Go.Proofs.YtfnhjdehlikbaaaGreatDoor.Lx
