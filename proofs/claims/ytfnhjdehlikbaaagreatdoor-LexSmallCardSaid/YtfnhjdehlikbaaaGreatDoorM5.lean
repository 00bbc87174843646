import Derived.Test.YtfnhjdehlikbaaaGreatDoorM4
import Derived.Test.YtfnhjdehlikbaaaGreatDoorM2
import Derived.Test.YtfnhjdehlikbaaaGreatDoorM0
import Derived.Test.YtfnhjdehlikbaaaGreatDoorM1
set_option linter.unusedVariables false
set_option linter.unusedSimpArgs false
namespace Go.Proofs.YtfnhjdehlikbaaaGreatDoor.Lx
open Go.RowKit Go.Proofs.YtfnhjdehlikbaaaGreatDoorW.PrintWords
theorem refLetter_any (c : Int) (w : World) : Calls Tryz.prog 115 #[.int .u8 c] w fun e w' => e = .returned (.bool (isLetter c)) ∧ w = w' := by
  by_cases h : 97 ≤ c
  · have h' : decide (97 ≤ c) = true := decide_eq_true h
    have hfin : isLetter c = decide (c ≤ 122) := by simp [isLetter, h]
    have H := Aside0.mk hfin; clear hfin
    go_enter Tryz.func115, Tryz.ntmps115
    go_wp2
    go_ret
    exact ⟨by rw [H.out]; rfl, rfl⟩
  · have h' : decide (97 ≤ c) = false := decide_eq_false h
    have hfin : isLetter c = false := by simp [isLetter, h]
    have H := Aside0.mk hfin; clear hfin
    go_enter Tryz.func115, Tryz.ntmps115
    go_wp2
    go_ret
    exact ⟨by rw [H.out]; rfl, rfl⟩
theorem refDigit_any (c : Int) (w : World) : Calls Tryz.prog 117 #[.int .u8 c] w fun e w' => e = .returned (.bool (isDigit c)) ∧ w = w' := by
  by_cases h : 48 ≤ c
  · have h' : decide (48 ≤ c) = true := decide_eq_true h
    have hfin : isDigit c = decide (c ≤ 57) := by simp [isDigit, h]
    have H := Aside0.mk hfin; clear hfin
    go_enter Tryz.func117, Tryz.ntmps117
    go_wp2
    go_ret
    exact ⟨by rw [H.out]; rfl, rfl⟩
  · have h' : decide (48 ≤ c) = false := decide_eq_false h
    have hfin : isDigit c = false := by simp [isDigit, h]
    have H := Aside0.mk hfin; clear hfin
    go_enter Tryz.func117, Tryz.ntmps117
    go_wp2
    go_ret
    exact ⟨by rw [H.out]; rfl, rfl⟩
set_option maxRecDepth 100000 in
set_option maxHeartbeats 4000000 in
theorem refHas_any (l : List ByteArray) (s : ByteArray) (g c : Nat) (w : World) (hl : l.length ≤ 1000000) (hc : ∀ k x, l[k]? = some x → w.cell? ⟨g, k, none⟩ = some (.string x)) :
    Calls Tryz.prog 83 #[.slice (some ⟨g, 0, none⟩) l.length c, .string s] w fun e w' => e = .returned (.bool (among l s)) ∧ w' = w := by
  have HC := Aside0.mk hc; clear hc
  go_enter Tryz.func83, Tryz.ntmps83
  go_wp2
  go_loop [5] (fun n => ∃ k : Nat, k ≤ l.length ∧ n = .int .i64 (k : Int) ∧ Aside0 ((l.take k).any (fun x => s.toList == x.toList) = false)) (fun n => l.length - (intOf n).toNat)
  case atStart => exact ⟨0, by omega, rfl, ⟨rfl⟩⟩
  case round =>
    obtain ⟨k, hk, rfl, hf⟩ := hrel
    by_cases hlt : k < l.length
    · have c0 := HC.out k l[k] (List.getElem?_eq_getElem hlt)
      cases hb : (s.toList == (l[k]).toList) with
      | true =>
        have HG := Aside0.mk hb; clear hb
        have hb2 := HG.out
        have hb3 : ((l[k]).toList == s.toList) = true := by rw [beq_iff_eq] at hb2 ⊢; exact hb2.symm
        go_wp2
        go_ret
        refine ⟨?_, rfl⟩
        have : among l s = true := by
          unfold among
          rw [List.any_eq_true]
          exact ⟨l[k], List.getElem_mem hlt, HG.out⟩
        rw [this]
        rfl
      | false =>
        have HG := Aside0.mk hb
        have hb3 : ((l[k]).toList == s.toList) = false := by rw [beq_eq_false_iff_ne] at hb ⊢; exact fun h => hb h.symm
        go_wp2
        go_round
        case rel => exact ⟨k + 1, by omega, by go_num, ⟨by rw [List.take_add_one, List.getElem?_eq_getElem hlt, List.any_append, hf.out, Bool.false_or, Option.toList_some, List.any_cons, HG.out]; rfl⟩⟩
        case measure => simp [intOf]; omega
    · obtain rfl : k = l.length := by omega
      go_wp2
      go_ret
      refine ⟨?_, rfl⟩
      have := hf.out
      rw [List.take_length] at this
      unfold among
      rw [this]
      rfl
theorem refKeywords_any (w : World) :
    Calls Tryz.prog 84 #[] w fun e w' => e = .returned (.slice (some ⟨w.heap.size, 0, none⟩) 11 11) ∧ w.alloc (.cells (kws.map Value.string).toArray 9) = w' := by
  go_enter Tryz.func84, Tryz.ntmps84
  go_wp2
  go_ret
  exact ⟨rfl, rfl⟩
theorem refSigns_any (w : World) :
    Calls Tryz.prog 119 #[] w fun e w' => e = .returned (.slice (some ⟨w.heap.size, 0, none⟩) 18 18) ∧ w.alloc (.cells (sgs.map Value.string).toArray 9) = w' := by
  go_enter Tryz.func119, Tryz.ntmps119
  go_wp2
  go_ret
  exact ⟨rfl, rfl⟩
theorem strs_new (w : World) (l : List ByteArray) : ∀ k x, l[k]? = some x → (w.alloc (.cells (l.map Value.string).toArray 9)).cell? ⟨w.heap.size, k, none⟩ = some (.string x) := by
  intro k x h
  rw [cell_of (heap_new w _)]
  simp [h]
theorem beq_toList (a b : ByteArray) : (a.toList == b.toList) = (a == b) := by
  cases a with
  | mk ad =>
    cases b with
    | mk bd =>
      have e : ((⟨ad⟩ : ByteArray) == ⟨bd⟩) = (ad == bd) := rfl
      rw [e, ByteArray.toList_eq, ByteArray.toList_eq, Bool.eq_iff_iff, beq_iff_eq, beq_iff_eq]
      exact Array.toList_inj
theorem among_kw (s : ByteArray) : among kws s = isKw s := by
  unfold among isKw
  congr 1
  funext x
  exact beq_toList s x
set_option maxRecDepth 100000 in
theorem refKeyword_any (s : ByteArray) (w : World) : Calls Tryz.prog 45 #[.string s] w fun e w' => e = .returned (.bool (isKw s)) ∧ Below w.heap.size w w' := by
  have HK := Aside0.mk (fun W => refKeywords_any W)
  have HH : Aside0 (∀ W : World, Calls Tryz.prog 83 #[.slice (some ⟨W.heap.size, 0, none⟩) 11 11, .string s] (W.alloc (.cells (kws.map Value.string).toArray 9)) fun e w' => e = .returned (.bool (isKw s)) ∧ w' = W.alloc (.cells (kws.map Value.string).toArray 9)) := ⟨fun W => among_kw s ▸ refHas_any kws s W.heap.size 11 _ (by decide) (strs_new W kws)⟩
  go_enter Tryz.func45, Tryz.ntmps45
  go_wp2_with (first | (go_at_call 84; (with_reducible refine (HK.out _).mono ?_); rintro e w1 ⟨rfl, rfl⟩) | (go_at_call 83; (with_reducible refine (HH.out _).mono ?_); rintro e w2 ⟨rfl, rfl⟩))
  go_ret
  exact ⟨rfl, (Below.refl _ w).alloc (Nat.le_refl _) _⟩
theorem run_cons (p : Int → Bool) (s : ByteArray) (i : Nat) (h : i < s.size) : run p s i = if p (bt s i) = true then run p s (i + 1) + 1 else 0 := by
  unfold run
  rw [List.drop_eq_getElem_cons (by rw [len_data]; exact h), List.takeWhile_cons]
  have e : (((s.data.toList[i]'(by rw [len_data]; exact h)).toNat : Nat) : Int) = bt s i := by
    rw [bt_list s i (by omega)]
    simp [h]
  rw [e]
  split <;> simp
set_option maxRecDepth 100000 in
set_option maxHeartbeats 4000000 in
theorem refPast_any (s : ByteArray) (a : Int) (w : World) (hs : s.size ≤ 140737488351232) (h0 : 0 ≤ a) (h1 : a ≤ s.size) :
    Calls Tryz.prog 80 #[.string s, .int .i64 a] w fun e w' => e = .returned (.int .i64 (lay s a)) ∧ w = w' := by
  obtain ⟨R, hR⟩ : ∃ R, lay s a = R := ⟨_, rfl⟩
  have HR0 : Aside0 (layL s (s.size + 1) a = R) := ⟨hR⟩
  rw [hR]
  clear hR
  go_enter Tryz.func80, Tryz.ntmps80
  go_wp2
  go_loopg [1] (s.size + 1) (fun f t1 wr => wr = w ∧ ∃ b : Int, t1 = .int .i64 b ∧ 0 ≤ b ∧ b ≤ s.size ∧ (s.size : Int) - b < f ∧ Aside0 (layL s f b = R))
  case atStart => exact ⟨rfl, a, rfl, h0, h1, by omega, HR0⟩
  case round =>
    obtain ⟨rfl, b, rfl, b0, b1, hf, hA⟩ := hrel
    cases gk with
    | zero => omega
    | succ f =>
      have hL := hA.out
      simp only [layL] at hL
      clear hA HR0
      by_cases hlt : b < s.size
      · rw [if_pos hlt] at hL
        have hx := bt_at s b
        by_cases h32 : bt s b = 32
        · rw [if_pos (.inl h32)] at hL
          have HL := Aside0.mk hL; clear hL
          have hb : (bt s b == 32) = true := by simp [h32]
          clear h32
          go_wp2
          go_roundg f
          case measure => omega
          case rel => exact ⟨rfl, b + 1, rfl, by omega, by omega, by omega, HL⟩
        · by_cases h10 : bt s b = 10
          · rw [if_pos (.inr h10)] at hL
            have HL := Aside0.mk hL; clear hL
            have hb : (bt s b == 32) = false := by simp [h32]
            have hb2 : (bt s b == 10) = true := by simp [h10]
            clear h32 h10
            go_wp2
            go_roundg f
            case measure => omega
            case rel => exact ⟨rfl, b + 1, rfl, by omega, by omega, by omega, HL⟩
          · rw [if_neg (fun h => h.elim h32 h10)] at hL
            have hb : (bt s b == 32) = false := by simp [h32]
            have hb2 : (bt s b == 10) = false := by simp [h10]
            cases hd : dash s b with
            | true =>
              rw [if_pos hd] at hL
              have hr := run_le (fun c => c != 10) s b.toNat (by omega)
              have hr1 := dash_run s b b0 hd
              have hdd := hd
              unfold dash at hdd
              simp only [Bool.and_eq_true, decide_eq_true_eq] at hdd
              obtain ⟨d1, d2, d3⟩ := hdd
              have hx2 := bt_at s (b + 1)
              have HL := Aside0.mk hL; clear hL hd h32 h10
              obtain ⟨k, hk⟩ : ∃ k, run (fun c => c != 10) s b.toNat = k := ⟨_, rfl⟩
              rw [hk] at hr hr1 HL
              have HK := Aside0.mk hk; clear hk
              go_wp2
              clear hx2 d2 d3 hb hb2 hx
              obtain ⟨wo, rfl⟩ : ∃ wo : World, wo = wr := ⟨_, rfl⟩
              go_loopg [1] (k + 1) (fun f2 t1 wr => wr = wo ∧ ∃ j : Nat, t1 = .int .i64 (b + (j : Int)) ∧ j + f2 = k + 1 ∧ j ≤ k ∧ Aside0 (run (fun c => c != 10) s (b.toNat + j) = k - j))
              case atStart => exact ⟨rfl, 0, by simp, by omega, by omega, ⟨HK.out⟩⟩
              case round =>
                obtain ⟨rfl, j, rfl, hj, hjk, hJ⟩ := hrel
                have hbj : (0 : Int) ≤ b + (j : Int) := by omega
                by_cases hend : b + (j : Int) < s.size
                · have hx := bt_at s (b + (j : Int))
                  have hrc := hJ.out
                  rw [run_cons _ _ _ (by omega), show ((b.toNat + j : Nat) : Int) = b + (j : Int) by omega] at hrc
                  cases hne : (bt s (b + (j : Int)) != 10) with
                  | true =>
                    rw [if_pos (by exact hne)] at hrc
                    have HJ2 : Aside0 (run (fun c => c != 10) s (b.toNat + (j + 1)) = k - (j + 1)) := ⟨by rw [show b.toNat + (j + 1) = b.toNat + j + 1 by omega]; omega⟩
                    have hjk2 : j + 1 ≤ k := by omega
                    clear hrc hJ
                    obtain rfl : gk = k - j + 1 := by omega
                    have he : b + (j : Int) + 1 = b + ((j + 1 : Nat) : Int) := by omega
                    have HE := Aside0.mk he; clear he
                    go_wp2
                    go_roundg (k - j)
                    case measure => omega
                    case rel => exact ⟨rfl, j + 1, by rw [HE.out], by omega, hjk2, HJ2⟩
                  | false =>
                    rw [if_neg (by rw [hne]; decide)] at hrc
                    have hjk2 : j = k := by omega
                    subst hjk2
                    clear hrc hJ
                    go_wp2
                    go_roundg f
                    case measure => omega
                    case rel => exact ⟨rfl, _, rfl, by omega, by omega, by omega, HL⟩
                · have hjk2 : j = k := by omega
                  subst hjk2
                  go_wp2
                  go_roundg f
                  case measure => omega
                  case rel => exact ⟨rfl, _, rfl, by omega, by omega, by omega, HL⟩
            | false =>
              rw [if_neg (by rw [hd]; decide)] at hL
              have HL := Aside0.mk hL; clear hL h32 h10
              by_cases h45 : bt s b = 45
              · have hb3 : (bt s b == 45) = true := by simp [h45]
                by_cases hn : b + 1 < s.size
                · have hx2 := bt_at s (b + 1)
                  have hb4 : (bt s (b + 1) == 45) = false := by
                    unfold dash at hd
                    rw [decide_eq_true hn, hb3] at hd
                    simpa using hd
                  clear h45 hd
                  go_wp2
                  go_ret
                  exact ⟨by rw [← HL.out]; rfl, rfl⟩
                · clear h45 hd
                  go_wp2
                  go_ret
                  exact ⟨by rw [← HL.out]; rfl, rfl⟩
              · have hb3 : (bt s b == 45) = false := by simp [h45]
                clear h45 hd
                go_wp2
                go_ret
                exact ⟨by rw [← HL.out]; rfl, rfl⟩
      · rw [if_neg hlt] at hL
        have HL := Aside0.mk hL; clear hL
        go_wp2
        go_ret
        exact ⟨by rw [← HL.out]; rfl, rfl⟩
end Go.Proofs.YtfnhjdehlikbaaaGreatDoor.Lx
namespace Go.Proofs.YtfnhjdehlikbaaaGreatDoor.Lx
open Go.RowKit Go.Proofs.YtfnhjdehlikbaaaGreatDoorW.PrintWords
theorem run_end (p : Int → Bool) (s : ByteArray) (i : Nat) (h : s.size ≤ i) : run p s i = 0 := by
  unfold run
  rw [List.drop_eq_nil_of_le (by rw [len_data]; exact h)]
  rfl
def ab (a b : Int) : Int := if b < 0 then -1 else a + b
theorem ab_neg {a b : Int} (h : b < 0) : ab a b = -1 := if_pos h
theorem ab_pos {a b : Int} (h : ¬ b < 0) : ab a b = a + b := if_neg h
structure WAt (s : ByteArray) (a : Int) (W : Int × Int) (f : Nat) (n bad many row e wrong : Int) : Prop where
  n0 : 0 ≤ n
  row0 : 0 ≤ row
  e_ : e = a + n + row
  le : e ≤ s.size
  run_ : (run isLetter s (a + n).toNat : Int) = row + run isLetter s e.toNat
  wr : wrong = ab a (if 10 < row ∧ bad < 0 then n + 10 else bad)
  fuel : (s.size : Int) - (a + n) < f
  bad1 : -1 ≤ bad
  many0 : 0 ≤ many
  many1 : many + (s.size - (a + n)) ≤ 140737488351232
  goal : wordsL s a f n bad many = W
theorem WAt.letter {s : ByteArray} {a : Int} {W : Int × Int} {f : Nat} {n bad many row e wrong : Int} (h0 : 0 ≤ a) (h : WAt s a W f n bad many row e wrong) (hlt : e < s.size) (hl : isLetter (bt s e) = true) :
    WAt s a W f n bad many (row + 1) (e + 1) (if 10 < row + 1 ∧ wrong < 0 then e else wrong) := by
  obtain ⟨h1, h2, h3, h4, h5, h6, h7, h8, h9, h10, h11⟩ := h
  have hr := run_cons isLetter s e.toNat (by omega)
  rw [show ((e.toNat : Nat) : Int) = e by omega, if_pos hl] at hr
  refine ⟨h1, by omega, by omega, by omega, ?_, ?_, h7, h8, h9, h10, h11⟩
  · rw [h5, show (e + 1).toNat = e.toNat + 1 by omega]
    omega
  · subst h6
    unfold ab
    (repeat' split) <;> omega
theorem WAt.dot {s : ByteArray} {a : Int} {W : Int × Int} {f : Nat} {n bad many row e wrong : Int} (h0 : 0 ≤ a) (h : WAt s a W f n bad many row e wrong) (hm : more s e = true) :
    ∃ f' n' bad', WAt s a W f' n' bad' (many + 1) 0 (e + 1) (if 5 < many + 1 ∧ wrong < 0 then e else wrong) := by
  obtain ⟨h1, h2, h3, h4, h5, h6, h7, h8, h9, h10, h11⟩ := h
  have hmm := hm
  unfold more at hmm
  simp only [Bool.and_eq_true, decide_eq_true_eq, beq_iff_eq] at hmm
  obtain ⟨m1, m2, m3⟩ := hmm
  have hr := run_cons isLetter s e.toNat (by omega)
  rw [show ((e.toNat : Nat) : Int) = e by omega, m2, if_neg (by decide)] at hr
  cases f with
  | zero => omega
  | succ f =>
    simp only [wordsL] at h11
    rw [h5, hr, show ((0 : Nat) : Int) = 0 from rfl, Int.add_zero, show a + (n + row) = e by omega, if_pos hm] at h11
    have hb1 : -1 ≤ (if 10 < row ∧ bad < 0 then n + 10 else bad) := by split <;> omega
    generalize (if 10 < row ∧ bad < 0 then n + 10 else bad) = b1 at h6 h11 hb1
    refine ⟨f, n + row + 1, _, by omega, Int.le_refl 0, by omega, by omega, ?_, ?_, by omega, ?_, by omega, by omega, h11⟩
    · rw [show a + (n + row + 1) = e + 1 by omega]
      omega
    · rw [h6]
      unfold ab
      (repeat' split) <;> omega
    · split <;> omega
theorem WAt.fin {s : ByteArray} {a : Int} {W : Int × Int} {f : Nat} {n bad many row e wrong : Int} (h0 : 0 ≤ a) (h : WAt s a W f n bad many row e wrong) (hl : e = s.size ∨ isLetter (bt s e) = false) (hm : more s e = false) :
    e = a + W.1 ∧ wrong = ab a W.2 := by
  obtain ⟨h1, h2, h3, h4, h5, h6, h7, h8, h9, h10, h11⟩ := h
  have hr : run isLetter s e.toNat = 0 := by
    by_cases he : e = s.size
    · exact run_end _ _ _ (by omega)
    · rw [run_cons isLetter s e.toNat (by omega), show ((e.toNat : Nat) : Int) = e by omega, if_neg (by rcases hl with h | h; exact absurd h he; rw [h]; decide)]
  cases f with
  | zero => omega
  | succ f =>
    simp only [wordsL] at h11
    rw [h5, hr, show ((0 : Nat) : Int) = 0 from rfl, Int.add_zero, show a + (n + row) = e by omega, if_neg (by rw [hm]; decide)] at h11
    rw [← h11]
    exact ⟨by simp only; omega, h6⟩
theorem size121 (v0 v1 v2 v3 v4 v5 : Value) : (Tryz.prog.info? 121).map (·.size) = some (#[v0, v1, v2, v3, v4, v5] : Array Value).size := by
  have h : (Tryz.prog.info? 121).map (·.size) = some 6 := by kernel_rfl
  rw [h]; rfl
theorem set6g {W : World} {b ty : Nat} {x0 x1 x2 x3 x4 x5 : Value} (h : W.heap[b]? = some (.cells #[x0, x1, x2, x3, x4, x5] ty)) (v0 v1 v2 v3 v4 v5 : Value) :
    ((((((W.setCell ⟨b, 0, none⟩ v0).setCell ⟨b, 1, none⟩ v1).setCell ⟨b, 2, none⟩ v2).setCell ⟨b, 3, none⟩ v3).setCell ⟨b, 4, none⟩ v4).setCell ⟨b, 5, none⟩ v5).heap[b]? = some (.cells #[v0, v1, v2, v3, v4, v5] ty) :=
  heap_set (heap_set (heap_set (heap_set (heap_set (heap_set h 0 v0) 1 v1) 2 v2) 3 v3) 4 v4) 5 v5
set_option maxRecDepth 100000 in
set_option maxHeartbeats 8000000 in
theorem refWorded_any (s : ByteArray) (a : Int) (w : World) (hs : s.size ≤ 140737488351000) (h0 : 0 ≤ a) (ha : a ≤ s.size) :
    Calls Tryz.prog 116 #[.string s, .int .i64 a] w fun e w' => e = .returned (.tuple #[.agg #[.int .i64 (nextWord s a).1.kind, .int .i64 0, .string (nextWord s a).1.text, .int .i64 0, .int .i64 0, .int .i64 0], .int .i64 (ab a (nextWord s a).2), .bool true]) ∧ Below w.heap.size w w' := by
  obtain ⟨WW, hWW⟩ : ∃ WW, words s a = WW := ⟨_, rfl⟩
  have HW0 : Aside0 (WAt s a WW (s.size + 1) 0 (-1) 1 0 a (-1)) := ⟨⟨by omega, by omega, by omega, ha, by rw [Int.add_zero]; omega, by rw [if_neg (by omega)]; rfl, by omega, by omega, by omega, by omega, hWW⟩⟩
  have hNW : nextWord s a = (⟨if isKw (s.extract a.toNat (a + WW.1).toNat) = true then 4 else 1, 0, s.extract a.toNat (a + WW.1).toNat, a, (posOf s a).1, (posOf s a).2⟩, WW.2) := by rw [← hWW]; rfl
  rw [hNW]
  clear hNW hWW
  have HLET := Aside0.mk (fun c W => refLetter_any c W)
  have HKW := Aside0.mk (fun x W => refKeyword_any x W)
  simp only
  obtain ⟨KD, hKD⟩ : ∃ KD : Int, (if isKw (s.extract a.toNat (a + WW.1).toNat) = true then (4 : Int) else 1) = KD := ⟨_, rfl⟩
  rw [hKD]
  have HKD := Aside0.mk hKD
  clear hKD
  go_enter Tryz.func116, Tryz.ntmps116
  go_wp2
  go_loopg [7, 8, 9, 10] (s.size + 1) (fun g t7 t8 t9 t10 wr => wr = w.alloc (.cells #[.int .i64 0, .int .i64 0, .string ⟨#[]⟩, .int .i64 0, .int .i64 0, .int .i64 0] 121) ∧ ∃ (f : Nat) (n bad many row e wrong : Int), t7 = .int .i64 wrong ∧ t8 = .int .i64 many ∧ t9 = .int .i64 row ∧ t10 = .int .i64 e ∧ 0 ≤ e ∧ e ≤ s.size ∧ (s.size : Int) - e < g ∧ 0 ≤ many ∧ many ≤ 140737488351232 ∧ 0 ≤ row ∧ row ≤ s.size ∧ Aside0 (WAt s a WW f n bad many row e wrong))
  case atStart => exact ⟨rfl, _, _, _, _, _, _, _, rfl, rfl, rfl, rfl, h0, ha, by omega, by omega, by omega, by omega, by omega, HW0⟩
  case round =>
    obtain ⟨rfl, f, n, bad, many, row, e, wrong, rfl, rfl, rfl, rfl, he0, he1, hg, hm0, hm1, hr0, hr1, hA⟩ := hrel
    clear HW0
    by_cases hlt : e < s.size
    · cases gk with
      | zero => omega
      | succ g =>
        have hx := bt_at s e
        have hb := bt_range s e
        cases hl : isLetter (bt s e) with
        | true =>
          have hN := hA.out.letter h0 hlt hl
          have hrow := hN.row0
          have hrle : row + 1 ≤ s.size := by have := hN.e_; have := hN.n0; have := hN.le; omega
          have HL := Aside0.mk hl; clear hl
          by_cases hc : 10 < row + 1
          · by_cases hc2 : wrong < 0
            · rw [if_pos ⟨hc, hc2⟩] at hN
              have HN := Aside0.mk hN; clear hN hA
              go_wp2_with (go_at_call 115; (with_reducible refine (HLET.out _ _).mono ?_); rintro e1 w1 ⟨rfl, rfl⟩; rw [HL.out])
              go_roundg g
              case measure => omega
              case rel => exact ⟨rfl, f, n, bad, many, row + 1, e + 1, _, rfl, rfl, rfl, rfl, by omega, by omega, by omega, hm0, hm1, by omega, hrle, HN⟩
            · rw [if_neg (fun q => hc2 q.2)] at hN
              have HN := Aside0.mk hN; clear hN hA
              go_wp2_with (go_at_call 115; (with_reducible refine (HLET.out _ _).mono ?_); rintro e1 w1 ⟨rfl, rfl⟩; rw [HL.out])
              go_roundg g
              case measure => omega
              case rel => exact ⟨rfl, f, n, bad, many, row + 1, e + 1, _, rfl, rfl, rfl, rfl, by omega, by omega, by omega, hm0, hm1, by omega, hrle, HN⟩
          · rw [if_neg (fun q => hc q.1)] at hN
            have HN := Aside0.mk hN; clear hN hA
            go_wp2_with (go_at_call 115; (with_reducible refine (HLET.out _ _).mono ?_); rintro e1 w1 ⟨rfl, rfl⟩; rw [HL.out])
            go_roundg g
            case measure => omega
            case rel => exact ⟨rfl, f, n, bad, many, row + 1, e + 1, _, rfl, rfl, rfl, rfl, by omega, by omega, by omega, hm0, hm1, by omega, hrle, HN⟩
        | false =>
          cases hm : more s e with
          | true =>
            have hmm := hm
            unfold more at hmm
            simp only [Bool.and_eq_true, decide_eq_true_eq, beq_iff_eq] at hmm
            obtain ⟨m1, m2, m3⟩ := hmm
            have hx2 := bt_at s (e + 1)
            have hb46 : (bt s e == 46) = true := by simp [m2]
            obtain ⟨f', n', bad', hN⟩ := hA.out.dot h0 hm
            have hmle : many + 1 ≤ 140737488351232 := by have := hN.many1; have := hN.e_; have := hN.le; omega
            have HL := Aside0.mk hl
            have HM3 := Aside0.mk m3
            clear hl m2 m3 hm
            by_cases hc : 5 < many + 1
            · by_cases hc2 : wrong < 0
              · rw [if_pos ⟨hc, hc2⟩] at hN
                have HN := Aside0.mk hN; clear hN hA
                go_wp2_with (go_at_call 115; (with_reducible refine (HLET.out _ _).mono ?_); rintro e1 w1 ⟨rfl, rfl⟩; first | rw [HL.out] | rw [HM3.out])
                go_roundg g
                case measure => omega
                case rel => exact ⟨rfl, f', n', bad', many + 1, 0, e + 1, _, rfl, rfl, rfl, rfl, by omega, by omega, by omega, by omega, hmle, by omega, by omega, HN⟩
              · rw [if_neg (fun q => hc2 q.2)] at hN
                have HN := Aside0.mk hN; clear hN hA
                go_wp2_with (go_at_call 115; (with_reducible refine (HLET.out _ _).mono ?_); rintro e1 w1 ⟨rfl, rfl⟩; first | rw [HL.out] | rw [HM3.out])
                go_roundg g
                case measure => omega
                case rel => exact ⟨rfl, f', n', bad', many + 1, 0, e + 1, _, rfl, rfl, rfl, rfl, by omega, by omega, by omega, by omega, hmle, by omega, by omega, HN⟩
            · rw [if_neg (fun q => hc q.1)] at hN
              have HN := Aside0.mk hN; clear hN hA
              go_wp2_with (go_at_call 115; (with_reducible refine (HLET.out _ _).mono ?_); rintro e1 w1 ⟨rfl, rfl⟩; first | rw [HL.out] | rw [HM3.out])
              go_roundg g
              case measure => omega
              case rel => exact ⟨rfl, f', n', bad', many + 1, 0, e + 1, _, rfl, rfl, rfl, rfl, by omega, by omega, by omega, by omega, hmle, by omega, by omega, HN⟩
          | false =>
            have hF := hA.out.fin h0 (.inr hl) hm
            have HL := Aside0.mk hl
            clear hl
            cases hb46 : (bt s e == 46) with
            | true =>
              by_cases hn1 : e + 1 < s.size
              · have hx2 := bt_at s (e + 1)
                have m3 : isLetter (bt s (e + 1)) = false := by
                  unfold more at hm
                  rw [decide_eq_true hn1, hb46] at hm
                  simpa using hm
                have HM3 := Aside0.mk m3
                clear m3 hm
                have HF := Aside0.mk hF; clear hF
                have hae : a ≤ e := by have := hA.out.e_; have := hA.out.n0; omega
                have HKB0 := fun W => HKW.out (s.extract a.toNat e.toNat) W
                obtain ⟨kb, hkb⟩ : ∃ kb, isKw (s.extract a.toNat e.toNat) = kb := ⟨_, rfl⟩
                rw [hkb] at HKB0
                have HKB := Aside0.mk HKB0
                have HKE := Aside0.mk hkb
                clear HKB0 hkb hA
                cases kb with
                | true =>
                  go_wp2_with (first | (go_at_call 115; (with_reducible refine (HLET.out _ _).mono ?_); rintro e1 w1 ⟨rfl, rfl⟩; first | rw [HL.out] | rw [HM3.out]) | (go_at_call 45; (with_reducible refine (HKB.out _).mono ?_); rintro e1 w1 ⟨rfl, hb⟩; have HB1 := Aside0.mk hb; have k1 := (hb.block (w.heap.size + 1) (by simp)).trans (heap_new' (w.alloc (.cells #[.int .i64 0, .int .i64 0, .string ⟨#[]⟩, .int .i64 0, .int .i64 0, .int .i64 0] 121)) (.cells #[.int .i64 1, .int .i64 0, .string (s.extract a.toNat e.toNat), .int .i64 0, .int .i64 0, .int .i64 0] 121) (w.heap.size + 1) (by simp)); have k0 := (hb.block w.heap.size (by simp; omega)).trans (heap_alloc (heap_new w (.cells #[.int .i64 0, .int .i64 0, .string ⟨#[]⟩, .int .i64 0, .int .i64 0, .int .i64 0] 121)) (.cells #[.int .i64 1, .int .i64 0, .string (s.extract a.toNat e.toNat), .int .i64 0, .int .i64 0, .int .i64 0] 121)); have z0 : w1.cell? ⟨w.heap.size + 1, 0, none⟩ = some (.int .i64 1) := cell_of k1 0; have z1 : w1.cell? ⟨w.heap.size + 1, 1, none⟩ = some (.int .i64 0) := cell_of k1 1; have z2 : w1.cell? ⟨w.heap.size + 1, 2, none⟩ = some (.string (s.extract a.toNat e.toNat)) := cell_of k1 2; have z3 : w1.cell? ⟨w.heap.size + 1, 3, none⟩ = some (.int .i64 0) := cell_of k1 3; have z4 : w1.cell? ⟨w.heap.size + 1, 4, none⟩ = some (.int .i64 0) := cell_of k1 4; have z5 : w1.cell? ⟨w.heap.size + 1, 5, none⟩ = some (.int .i64 0) := cell_of k1 5; have y0 : w1.cell? ⟨w.heap.size, 0, none⟩ = some (.int .i64 0) := cell_of k0 0; have y1 : w1.cell? ⟨w.heap.size, 1, none⟩ = some (.int .i64 0) := cell_of k0 1; have y2 : w1.cell? ⟨w.heap.size, 2, none⟩ = some (.string ⟨#[]⟩) := cell_of k0 2; have y3 : w1.cell? ⟨w.heap.size, 3, none⟩ = some (.int .i64 0) := cell_of k0 3; have y4 : w1.cell? ⟨w.heap.size, 4, none⟩ = some (.int .i64 0) := cell_of k0 4; have y5 : w1.cell? ⟨w.heap.size, 5, none⟩ = some (.int .i64 0) := cell_of k0 5; have zf := fun i => free_of k1 i; have yf := fun i => free_of k0 i; have K1 := Aside0.mk k1; have K0 := Aside0.mk k0; have hz1 : w.heap.size + 2 ≤ w1.heap.size := (by have := hb.size; simp at this; omega); clear hb k1 k0))
                  refine bodyPost_ret (results_list (rs := [.cell 4 121, .tmp 5, .tmp 6]) rfl (by simp) (.cell w.heap.size 121 _ (0, 0) _ rfl (set6g ((heap_set_other (by simp) _).trans K0.out) _ _ _ _ _ _) Tryz.underlying121 rfl (size121 _ _ _ _ _ _) (.tmp (.tmp .nil)))) rfl ⟨?_, ?_⟩
                  · obtain ⟨e9, e8⟩ := HF.out
                    rw [← HKD.out, ← e9, HKE.out, ← e8]; rfl
                  · exact below_set6 (((((Below.refl _ w).alloc (Nat.le_refl _) _).alloc (by simp) _).trans (HB1.out.mono (by simp; omega))).setCell (Nat.le_succ _) _) (Nat.le_refl _) _ _ _ _ _ _
                | false =>
                  go_wp2_with (first | (go_at_call 115; (with_reducible refine (HLET.out _ _).mono ?_); rintro e1 w1 ⟨rfl, rfl⟩; first | rw [HL.out] | rw [HM3.out]) | (go_at_call 45; (with_reducible refine (HKB.out _).mono ?_); rintro e1 w1 ⟨rfl, hb⟩; have HB1 := Aside0.mk hb; have k1 := (hb.block (w.heap.size + 1) (by simp)).trans (heap_new' (w.alloc (.cells #[.int .i64 0, .int .i64 0, .string ⟨#[]⟩, .int .i64 0, .int .i64 0, .int .i64 0] 121)) (.cells #[.int .i64 1, .int .i64 0, .string (s.extract a.toNat e.toNat), .int .i64 0, .int .i64 0, .int .i64 0] 121) (w.heap.size + 1) (by simp)); have k0 := (hb.block w.heap.size (by simp; omega)).trans (heap_alloc (heap_new w (.cells #[.int .i64 0, .int .i64 0, .string ⟨#[]⟩, .int .i64 0, .int .i64 0, .int .i64 0] 121)) (.cells #[.int .i64 1, .int .i64 0, .string (s.extract a.toNat e.toNat), .int .i64 0, .int .i64 0, .int .i64 0] 121)); have z0 : w1.cell? ⟨w.heap.size + 1, 0, none⟩ = some (.int .i64 1) := cell_of k1 0; have z1 : w1.cell? ⟨w.heap.size + 1, 1, none⟩ = some (.int .i64 0) := cell_of k1 1; have z2 : w1.cell? ⟨w.heap.size + 1, 2, none⟩ = some (.string (s.extract a.toNat e.toNat)) := cell_of k1 2; have z3 : w1.cell? ⟨w.heap.size + 1, 3, none⟩ = some (.int .i64 0) := cell_of k1 3; have z4 : w1.cell? ⟨w.heap.size + 1, 4, none⟩ = some (.int .i64 0) := cell_of k1 4; have z5 : w1.cell? ⟨w.heap.size + 1, 5, none⟩ = some (.int .i64 0) := cell_of k1 5; have y0 : w1.cell? ⟨w.heap.size, 0, none⟩ = some (.int .i64 0) := cell_of k0 0; have y1 : w1.cell? ⟨w.heap.size, 1, none⟩ = some (.int .i64 0) := cell_of k0 1; have y2 : w1.cell? ⟨w.heap.size, 2, none⟩ = some (.string ⟨#[]⟩) := cell_of k0 2; have y3 : w1.cell? ⟨w.heap.size, 3, none⟩ = some (.int .i64 0) := cell_of k0 3; have y4 : w1.cell? ⟨w.heap.size, 4, none⟩ = some (.int .i64 0) := cell_of k0 4; have y5 : w1.cell? ⟨w.heap.size, 5, none⟩ = some (.int .i64 0) := cell_of k0 5; have zf := fun i => free_of k1 i; have yf := fun i => free_of k0 i; have K1 := Aside0.mk k1; have K0 := Aside0.mk k0; have hz1 : w.heap.size + 2 ≤ w1.heap.size := (by have := hb.size; simp at this; omega); clear hb k1 k0))
                  refine bodyPost_ret (results_list (rs := [.cell 4 121, .tmp 5, .tmp 6]) rfl (by simp) (.cell w.heap.size 121 _ (0, 0) _ rfl (set6g K0.out _ _ _ _ _ _) Tryz.underlying121 rfl (size121 _ _ _ _ _ _) (.tmp (.tmp .nil)))) rfl ⟨?_, ?_⟩
                  · obtain ⟨e9, e8⟩ := HF.out
                    rw [← HKD.out, ← e9, HKE.out, ← e8]; rfl
                  · exact below_set6 ((((Below.refl _ w).alloc (Nat.le_refl _) _).alloc (by simp) _).trans (HB1.out.mono (by simp; omega))) (Nat.le_refl _) _ _ _ _ _ _
              · clear hm
                have HF := Aside0.mk hF; clear hF
                have hae : a ≤ e := by have := hA.out.e_; have := hA.out.n0; omega
                have HKB0 := fun W => HKW.out (s.extract a.toNat e.toNat) W
                obtain ⟨kb, hkb⟩ : ∃ kb, isKw (s.extract a.toNat e.toNat) = kb := ⟨_, rfl⟩
                rw [hkb] at HKB0
                have HKB := Aside0.mk HKB0
                have HKE := Aside0.mk hkb
                clear HKB0 hkb hA
                cases kb with
                | true =>
                  go_wp2_with (first | (go_at_call 115; (with_reducible refine (HLET.out _ _).mono ?_); rintro e1 w1 ⟨rfl, rfl⟩; rw [HL.out]) | (go_at_call 45; (with_reducible refine (HKB.out _).mono ?_); rintro e1 w1 ⟨rfl, hb⟩; have HB1 := Aside0.mk hb; have k1 := (hb.block (w.heap.size + 1) (by simp)).trans (heap_new' (w.alloc (.cells #[.int .i64 0, .int .i64 0, .string ⟨#[]⟩, .int .i64 0, .int .i64 0, .int .i64 0] 121)) (.cells #[.int .i64 1, .int .i64 0, .string (s.extract a.toNat e.toNat), .int .i64 0, .int .i64 0, .int .i64 0] 121) (w.heap.size + 1) (by simp)); have k0 := (hb.block w.heap.size (by simp; omega)).trans (heap_alloc (heap_new w (.cells #[.int .i64 0, .int .i64 0, .string ⟨#[]⟩, .int .i64 0, .int .i64 0, .int .i64 0] 121)) (.cells #[.int .i64 1, .int .i64 0, .string (s.extract a.toNat e.toNat), .int .i64 0, .int .i64 0, .int .i64 0] 121)); have z0 : w1.cell? ⟨w.heap.size + 1, 0, none⟩ = some (.int .i64 1) := cell_of k1 0; have z1 : w1.cell? ⟨w.heap.size + 1, 1, none⟩ = some (.int .i64 0) := cell_of k1 1; have z2 : w1.cell? ⟨w.heap.size + 1, 2, none⟩ = some (.string (s.extract a.toNat e.toNat)) := cell_of k1 2; have z3 : w1.cell? ⟨w.heap.size + 1, 3, none⟩ = some (.int .i64 0) := cell_of k1 3; have z4 : w1.cell? ⟨w.heap.size + 1, 4, none⟩ = some (.int .i64 0) := cell_of k1 4; have z5 : w1.cell? ⟨w.heap.size + 1, 5, none⟩ = some (.int .i64 0) := cell_of k1 5; have y0 : w1.cell? ⟨w.heap.size, 0, none⟩ = some (.int .i64 0) := cell_of k0 0; have y1 : w1.cell? ⟨w.heap.size, 1, none⟩ = some (.int .i64 0) := cell_of k0 1; have y2 : w1.cell? ⟨w.heap.size, 2, none⟩ = some (.string ⟨#[]⟩) := cell_of k0 2; have y3 : w1.cell? ⟨w.heap.size, 3, none⟩ = some (.int .i64 0) := cell_of k0 3; have y4 : w1.cell? ⟨w.heap.size, 4, none⟩ = some (.int .i64 0) := cell_of k0 4; have y5 : w1.cell? ⟨w.heap.size, 5, none⟩ = some (.int .i64 0) := cell_of k0 5; have zf := fun i => free_of k1 i; have yf := fun i => free_of k0 i; have K1 := Aside0.mk k1; have K0 := Aside0.mk k0; have hz1 : w.heap.size + 2 ≤ w1.heap.size := (by have := hb.size; simp at this; omega); clear hb k1 k0))
                  refine bodyPost_ret (results_list (rs := [.cell 4 121, .tmp 5, .tmp 6]) rfl (by simp) (.cell w.heap.size 121 _ (0, 0) _ rfl (set6g ((heap_set_other (by simp) _).trans K0.out) _ _ _ _ _ _) Tryz.underlying121 rfl (size121 _ _ _ _ _ _) (.tmp (.tmp .nil)))) rfl ⟨?_, ?_⟩
                  · obtain ⟨e9, e8⟩ := HF.out
                    rw [← HKD.out, ← e9, HKE.out, ← e8]; rfl
                  · exact below_set6 (((((Below.refl _ w).alloc (Nat.le_refl _) _).alloc (by simp) _).trans (HB1.out.mono (by simp; omega))).setCell (Nat.le_succ _) _) (Nat.le_refl _) _ _ _ _ _ _
                | false =>
                  go_wp2_with (first | (go_at_call 115; (with_reducible refine (HLET.out _ _).mono ?_); rintro e1 w1 ⟨rfl, rfl⟩; rw [HL.out]) | (go_at_call 45; (with_reducible refine (HKB.out _).mono ?_); rintro e1 w1 ⟨rfl, hb⟩; have HB1 := Aside0.mk hb; have k1 := (hb.block (w.heap.size + 1) (by simp)).trans (heap_new' (w.alloc (.cells #[.int .i64 0, .int .i64 0, .string ⟨#[]⟩, .int .i64 0, .int .i64 0, .int .i64 0] 121)) (.cells #[.int .i64 1, .int .i64 0, .string (s.extract a.toNat e.toNat), .int .i64 0, .int .i64 0, .int .i64 0] 121) (w.heap.size + 1) (by simp)); have k0 := (hb.block w.heap.size (by simp; omega)).trans (heap_alloc (heap_new w (.cells #[.int .i64 0, .int .i64 0, .string ⟨#[]⟩, .int .i64 0, .int .i64 0, .int .i64 0] 121)) (.cells #[.int .i64 1, .int .i64 0, .string (s.extract a.toNat e.toNat), .int .i64 0, .int .i64 0, .int .i64 0] 121)); have z0 : w1.cell? ⟨w.heap.size + 1, 0, none⟩ = some (.int .i64 1) := cell_of k1 0; have z1 : w1.cell? ⟨w.heap.size + 1, 1, none⟩ = some (.int .i64 0) := cell_of k1 1; have z2 : w1.cell? ⟨w.heap.size + 1, 2, none⟩ = some (.string (s.extract a.toNat e.toNat)) := cell_of k1 2; have z3 : w1.cell? ⟨w.heap.size + 1, 3, none⟩ = some (.int .i64 0) := cell_of k1 3; have z4 : w1.cell? ⟨w.heap.size + 1, 4, none⟩ = some (.int .i64 0) := cell_of k1 4; have z5 : w1.cell? ⟨w.heap.size + 1, 5, none⟩ = some (.int .i64 0) := cell_of k1 5; have y0 : w1.cell? ⟨w.heap.size, 0, none⟩ = some (.int .i64 0) := cell_of k0 0; have y1 : w1.cell? ⟨w.heap.size, 1, none⟩ = some (.int .i64 0) := cell_of k0 1; have y2 : w1.cell? ⟨w.heap.size, 2, none⟩ = some (.string ⟨#[]⟩) := cell_of k0 2; have y3 : w1.cell? ⟨w.heap.size, 3, none⟩ = some (.int .i64 0) := cell_of k0 3; have y4 : w1.cell? ⟨w.heap.size, 4, none⟩ = some (.int .i64 0) := cell_of k0 4; have y5 : w1.cell? ⟨w.heap.size, 5, none⟩ = some (.int .i64 0) := cell_of k0 5; have zf := fun i => free_of k1 i; have yf := fun i => free_of k0 i; have K1 := Aside0.mk k1; have K0 := Aside0.mk k0; have hz1 : w.heap.size + 2 ≤ w1.heap.size := (by have := hb.size; simp at this; omega); clear hb k1 k0))
                  refine bodyPost_ret (results_list (rs := [.cell 4 121, .tmp 5, .tmp 6]) rfl (by simp) (.cell w.heap.size 121 _ (0, 0) _ rfl (set6g K0.out _ _ _ _ _ _) Tryz.underlying121 rfl (size121 _ _ _ _ _ _) (.tmp (.tmp .nil)))) rfl ⟨?_, ?_⟩
                  · obtain ⟨e9, e8⟩ := HF.out
                    rw [← HKD.out, ← e9, HKE.out, ← e8]; rfl
                  · exact below_set6 ((((Below.refl _ w).alloc (Nat.le_refl _) _).alloc (by simp) _).trans (HB1.out.mono (by simp; omega))) (Nat.le_refl _) _ _ _ _ _ _
            | false =>
              clear hm
              have HF := Aside0.mk hF; clear hF
              have hae : a ≤ e := by have := hA.out.e_; have := hA.out.n0; omega
              have HKB0 := fun W => HKW.out (s.extract a.toNat e.toNat) W
              obtain ⟨kb, hkb⟩ : ∃ kb, isKw (s.extract a.toNat e.toNat) = kb := ⟨_, rfl⟩
              rw [hkb] at HKB0
              have HKB := Aside0.mk HKB0
              have HKE := Aside0.mk hkb
              clear HKB0 hkb hA
              cases kb with
              | true =>
                go_wp2_with (first | (go_at_call 115; (with_reducible refine (HLET.out _ _).mono ?_); rintro e1 w1 ⟨rfl, rfl⟩; rw [HL.out]) | (go_at_call 45; (with_reducible refine (HKB.out _).mono ?_); rintro e1 w1 ⟨rfl, hb⟩; have HB1 := Aside0.mk hb; have k1 := (hb.block (w.heap.size + 1) (by simp)).trans (heap_new' (w.alloc (.cells #[.int .i64 0, .int .i64 0, .string ⟨#[]⟩, .int .i64 0, .int .i64 0, .int .i64 0] 121)) (.cells #[.int .i64 1, .int .i64 0, .string (s.extract a.toNat e.toNat), .int .i64 0, .int .i64 0, .int .i64 0] 121) (w.heap.size + 1) (by simp)); have k0 := (hb.block w.heap.size (by simp; omega)).trans (heap_alloc (heap_new w (.cells #[.int .i64 0, .int .i64 0, .string ⟨#[]⟩, .int .i64 0, .int .i64 0, .int .i64 0] 121)) (.cells #[.int .i64 1, .int .i64 0, .string (s.extract a.toNat e.toNat), .int .i64 0, .int .i64 0, .int .i64 0] 121)); have z0 : w1.cell? ⟨w.heap.size + 1, 0, none⟩ = some (.int .i64 1) := cell_of k1 0; have z1 : w1.cell? ⟨w.heap.size + 1, 1, none⟩ = some (.int .i64 0) := cell_of k1 1; have z2 : w1.cell? ⟨w.heap.size + 1, 2, none⟩ = some (.string (s.extract a.toNat e.toNat)) := cell_of k1 2; have z3 : w1.cell? ⟨w.heap.size + 1, 3, none⟩ = some (.int .i64 0) := cell_of k1 3; have z4 : w1.cell? ⟨w.heap.size + 1, 4, none⟩ = some (.int .i64 0) := cell_of k1 4; have z5 : w1.cell? ⟨w.heap.size + 1, 5, none⟩ = some (.int .i64 0) := cell_of k1 5; have y0 : w1.cell? ⟨w.heap.size, 0, none⟩ = some (.int .i64 0) := cell_of k0 0; have y1 : w1.cell? ⟨w.heap.size, 1, none⟩ = some (.int .i64 0) := cell_of k0 1; have y2 : w1.cell? ⟨w.heap.size, 2, none⟩ = some (.string ⟨#[]⟩) := cell_of k0 2; have y3 : w1.cell? ⟨w.heap.size, 3, none⟩ = some (.int .i64 0) := cell_of k0 3; have y4 : w1.cell? ⟨w.heap.size, 4, none⟩ = some (.int .i64 0) := cell_of k0 4; have y5 : w1.cell? ⟨w.heap.size, 5, none⟩ = some (.int .i64 0) := cell_of k0 5; have zf := fun i => free_of k1 i; have yf := fun i => free_of k0 i; have K1 := Aside0.mk k1; have K0 := Aside0.mk k0; have hz1 : w.heap.size + 2 ≤ w1.heap.size := (by have := hb.size; simp at this; omega); clear hb k1 k0))
                refine bodyPost_ret (results_list (rs := [.cell 4 121, .tmp 5, .tmp 6]) rfl (by simp) (.cell w.heap.size 121 _ (0, 0) _ rfl (set6g ((heap_set_other (by simp) _).trans K0.out) _ _ _ _ _ _) Tryz.underlying121 rfl (size121 _ _ _ _ _ _) (.tmp (.tmp .nil)))) rfl ⟨?_, ?_⟩
                · obtain ⟨e9, e8⟩ := HF.out
                  rw [← HKD.out, ← e9, HKE.out, ← e8]; rfl
                · exact below_set6 (((((Below.refl _ w).alloc (Nat.le_refl _) _).alloc (by simp) _).trans (HB1.out.mono (by simp; omega))).setCell (Nat.le_succ _) _) (Nat.le_refl _) _ _ _ _ _ _
              | false =>
                go_wp2_with (first | (go_at_call 115; (with_reducible refine (HLET.out _ _).mono ?_); rintro e1 w1 ⟨rfl, rfl⟩; rw [HL.out]) | (go_at_call 45; (with_reducible refine (HKB.out _).mono ?_); rintro e1 w1 ⟨rfl, hb⟩; have HB1 := Aside0.mk hb; have k1 := (hb.block (w.heap.size + 1) (by simp)).trans (heap_new' (w.alloc (.cells #[.int .i64 0, .int .i64 0, .string ⟨#[]⟩, .int .i64 0, .int .i64 0, .int .i64 0] 121)) (.cells #[.int .i64 1, .int .i64 0, .string (s.extract a.toNat e.toNat), .int .i64 0, .int .i64 0, .int .i64 0] 121) (w.heap.size + 1) (by simp)); have k0 := (hb.block w.heap.size (by simp; omega)).trans (heap_alloc (heap_new w (.cells #[.int .i64 0, .int .i64 0, .string ⟨#[]⟩, .int .i64 0, .int .i64 0, .int .i64 0] 121)) (.cells #[.int .i64 1, .int .i64 0, .string (s.extract a.toNat e.toNat), .int .i64 0, .int .i64 0, .int .i64 0] 121)); have z0 : w1.cell? ⟨w.heap.size + 1, 0, none⟩ = some (.int .i64 1) := cell_of k1 0; have z1 : w1.cell? ⟨w.heap.size + 1, 1, none⟩ = some (.int .i64 0) := cell_of k1 1; have z2 : w1.cell? ⟨w.heap.size + 1, 2, none⟩ = some (.string (s.extract a.toNat e.toNat)) := cell_of k1 2; have z3 : w1.cell? ⟨w.heap.size + 1, 3, none⟩ = some (.int .i64 0) := cell_of k1 3; have z4 : w1.cell? ⟨w.heap.size + 1, 4, none⟩ = some (.int .i64 0) := cell_of k1 4; have z5 : w1.cell? ⟨w.heap.size + 1, 5, none⟩ = some (.int .i64 0) := cell_of k1 5; have y0 : w1.cell? ⟨w.heap.size, 0, none⟩ = some (.int .i64 0) := cell_of k0 0; have y1 : w1.cell? ⟨w.heap.size, 1, none⟩ = some (.int .i64 0) := cell_of k0 1; have y2 : w1.cell? ⟨w.heap.size, 2, none⟩ = some (.string ⟨#[]⟩) := cell_of k0 2; have y3 : w1.cell? ⟨w.heap.size, 3, none⟩ = some (.int .i64 0) := cell_of k0 3; have y4 : w1.cell? ⟨w.heap.size, 4, none⟩ = some (.int .i64 0) := cell_of k0 4; have y5 : w1.cell? ⟨w.heap.size, 5, none⟩ = some (.int .i64 0) := cell_of k0 5; have zf := fun i => free_of k1 i; have yf := fun i => free_of k0 i; have K1 := Aside0.mk k1; have K0 := Aside0.mk k0; have hz1 : w.heap.size + 2 ≤ w1.heap.size := (by have := hb.size; simp at this; omega); clear hb k1 k0))
                refine bodyPost_ret (results_list (rs := [.cell 4 121, .tmp 5, .tmp 6]) rfl (by simp) (.cell w.heap.size 121 _ (0, 0) _ rfl (set6g K0.out _ _ _ _ _ _) Tryz.underlying121 rfl (size121 _ _ _ _ _ _) (.tmp (.tmp .nil)))) rfl ⟨?_, ?_⟩
                · obtain ⟨e9, e8⟩ := HF.out
                  rw [← HKD.out, ← e9, HKE.out, ← e8]; rfl
                · exact below_set6 ((((Below.refl _ w).alloc (Nat.le_refl _) _).alloc (by simp) _).trans (HB1.out.mono (by simp; omega))) (Nat.le_refl _) _ _ _ _ _ _
    · have hee : e = s.size := by omega
      have hm : more s e = false := by unfold more; rw [decide_eq_false (by omega)]; rfl
      have hF := hA.out.fin h0 (.inl hee) hm
      clear hm hee
      have HF := Aside0.mk hF; clear hF
      have hae : a ≤ e := by have := hA.out.e_; have := hA.out.n0; omega
      have HKB0 := fun W => HKW.out (s.extract a.toNat e.toNat) W
      obtain ⟨kb, hkb⟩ : ∃ kb, isKw (s.extract a.toNat e.toNat) = kb := ⟨_, rfl⟩
      rw [hkb] at HKB0
      have HKB := Aside0.mk HKB0
      have HKE := Aside0.mk hkb
      clear HKB0 hkb hA
      cases kb with
      | true =>
        go_wp2_with (first | (go_at_call 45; (with_reducible refine (HKB.out _).mono ?_); rintro e1 w1 ⟨rfl, hb⟩; have HB1 := Aside0.mk hb; have k1 := (hb.block (w.heap.size + 1) (by simp)).trans (heap_new' (w.alloc (.cells #[.int .i64 0, .int .i64 0, .string ⟨#[]⟩, .int .i64 0, .int .i64 0, .int .i64 0] 121)) (.cells #[.int .i64 1, .int .i64 0, .string (s.extract a.toNat e.toNat), .int .i64 0, .int .i64 0, .int .i64 0] 121) (w.heap.size + 1) (by simp)); have k0 := (hb.block w.heap.size (by simp; omega)).trans (heap_alloc (heap_new w (.cells #[.int .i64 0, .int .i64 0, .string ⟨#[]⟩, .int .i64 0, .int .i64 0, .int .i64 0] 121)) (.cells #[.int .i64 1, .int .i64 0, .string (s.extract a.toNat e.toNat), .int .i64 0, .int .i64 0, .int .i64 0] 121)); have z0 : w1.cell? ⟨w.heap.size + 1, 0, none⟩ = some (.int .i64 1) := cell_of k1 0; have z1 : w1.cell? ⟨w.heap.size + 1, 1, none⟩ = some (.int .i64 0) := cell_of k1 1; have z2 : w1.cell? ⟨w.heap.size + 1, 2, none⟩ = some (.string (s.extract a.toNat e.toNat)) := cell_of k1 2; have z3 : w1.cell? ⟨w.heap.size + 1, 3, none⟩ = some (.int .i64 0) := cell_of k1 3; have z4 : w1.cell? ⟨w.heap.size + 1, 4, none⟩ = some (.int .i64 0) := cell_of k1 4; have z5 : w1.cell? ⟨w.heap.size + 1, 5, none⟩ = some (.int .i64 0) := cell_of k1 5; have y0 : w1.cell? ⟨w.heap.size, 0, none⟩ = some (.int .i64 0) := cell_of k0 0; have y1 : w1.cell? ⟨w.heap.size, 1, none⟩ = some (.int .i64 0) := cell_of k0 1; have y2 : w1.cell? ⟨w.heap.size, 2, none⟩ = some (.string ⟨#[]⟩) := cell_of k0 2; have y3 : w1.cell? ⟨w.heap.size, 3, none⟩ = some (.int .i64 0) := cell_of k0 3; have y4 : w1.cell? ⟨w.heap.size, 4, none⟩ = some (.int .i64 0) := cell_of k0 4; have y5 : w1.cell? ⟨w.heap.size, 5, none⟩ = some (.int .i64 0) := cell_of k0 5; have zf := fun i => free_of k1 i; have yf := fun i => free_of k0 i; have K1 := Aside0.mk k1; have K0 := Aside0.mk k0; have hz1 : w.heap.size + 2 ≤ w1.heap.size := (by have := hb.size; simp at this; omega); clear hb k1 k0))
        refine bodyPost_ret (results_list (rs := [.cell 4 121, .tmp 5, .tmp 6]) rfl (by simp) (.cell w.heap.size 121 _ (0, 0) _ rfl (set6g ((heap_set_other (by simp) _).trans K0.out) _ _ _ _ _ _) Tryz.underlying121 rfl (size121 _ _ _ _ _ _) (.tmp (.tmp .nil)))) rfl ⟨?_, ?_⟩
        · obtain ⟨e9, e8⟩ := HF.out
          rw [← HKD.out, ← e9, HKE.out, ← e8]; rfl
        · exact below_set6 (((((Below.refl _ w).alloc (Nat.le_refl _) _).alloc (by simp) _).trans (HB1.out.mono (by simp; omega))).setCell (Nat.le_succ _) _) (Nat.le_refl _) _ _ _ _ _ _
      | false =>
        go_wp2_with (first | (go_at_call 45; (with_reducible refine (HKB.out _).mono ?_); rintro e1 w1 ⟨rfl, hb⟩; have HB1 := Aside0.mk hb; have k1 := (hb.block (w.heap.size + 1) (by simp)).trans (heap_new' (w.alloc (.cells #[.int .i64 0, .int .i64 0, .string ⟨#[]⟩, .int .i64 0, .int .i64 0, .int .i64 0] 121)) (.cells #[.int .i64 1, .int .i64 0, .string (s.extract a.toNat e.toNat), .int .i64 0, .int .i64 0, .int .i64 0] 121) (w.heap.size + 1) (by simp)); have k0 := (hb.block w.heap.size (by simp; omega)).trans (heap_alloc (heap_new w (.cells #[.int .i64 0, .int .i64 0, .string ⟨#[]⟩, .int .i64 0, .int .i64 0, .int .i64 0] 121)) (.cells #[.int .i64 1, .int .i64 0, .string (s.extract a.toNat e.toNat), .int .i64 0, .int .i64 0, .int .i64 0] 121)); have z0 : w1.cell? ⟨w.heap.size + 1, 0, none⟩ = some (.int .i64 1) := cell_of k1 0; have z1 : w1.cell? ⟨w.heap.size + 1, 1, none⟩ = some (.int .i64 0) := cell_of k1 1; have z2 : w1.cell? ⟨w.heap.size + 1, 2, none⟩ = some (.string (s.extract a.toNat e.toNat)) := cell_of k1 2; have z3 : w1.cell? ⟨w.heap.size + 1, 3, none⟩ = some (.int .i64 0) := cell_of k1 3; have z4 : w1.cell? ⟨w.heap.size + 1, 4, none⟩ = some (.int .i64 0) := cell_of k1 4; have z5 : w1.cell? ⟨w.heap.size + 1, 5, none⟩ = some (.int .i64 0) := cell_of k1 5; have y0 : w1.cell? ⟨w.heap.size, 0, none⟩ = some (.int .i64 0) := cell_of k0 0; have y1 : w1.cell? ⟨w.heap.size, 1, none⟩ = some (.int .i64 0) := cell_of k0 1; have y2 : w1.cell? ⟨w.heap.size, 2, none⟩ = some (.string ⟨#[]⟩) := cell_of k0 2; have y3 : w1.cell? ⟨w.heap.size, 3, none⟩ = some (.int .i64 0) := cell_of k0 3; have y4 : w1.cell? ⟨w.heap.size, 4, none⟩ = some (.int .i64 0) := cell_of k0 4; have y5 : w1.cell? ⟨w.heap.size, 5, none⟩ = some (.int .i64 0) := cell_of k0 5; have zf := fun i => free_of k1 i; have yf := fun i => free_of k0 i; have K1 := Aside0.mk k1; have K0 := Aside0.mk k0; have hz1 : w.heap.size + 2 ≤ w1.heap.size := (by have := hb.size; simp at this; omega); clear hb k1 k0))
        refine bodyPost_ret (results_list (rs := [.cell 4 121, .tmp 5, .tmp 6]) rfl (by simp) (.cell w.heap.size 121 _ (0, 0) _ rfl (set6g K0.out _ _ _ _ _ _) Tryz.underlying121 rfl (size121 _ _ _ _ _ _) (.tmp (.tmp .nil)))) rfl ⟨?_, ?_⟩
        · obtain ⟨e9, e8⟩ := HF.out
          rw [← HKD.out, ← e9, HKE.out, ← e8]; rfl
        · exact below_set6 ((((Below.refl _ w).alloc (Nat.le_refl _) _).alloc (by simp) _).trans (HB1.out.mono (by simp; omega))) (Nat.le_refl _) _ _ _ _ _ _
end Go.Proofs.YtfnhjdehlikbaaaGreatDoor.Lx
namespace Go.Proofs.YtfnhjdehlikbaaaGreatDoor.Lx
open Go.RowKit Go.Proofs.YtfnhjdehlikbaaaGreatDoorW.PrintWords
def valL : List UInt8 → Int → Int
  | [], v => v
  | b :: l, v => valL l (min (10 * v + ((b.toNat : Int) - 48)) 1073741825)
theorem valL_top : ∀ (l : List UInt8), (∀ b ∈ l, 48 ≤ b.toNat ∧ b.toNat ≤ 57) → valL l 1073741825 = 1073741825 := by
  intro l
  induction l with
  | nil => intro _; rfl
  | cons b l ih =>
    intro h
    have hb := h b (by simp)
    rw [valL, show min (10 * (1073741825 : Int) + ((b.toNat : Int) - 48)) 1073741825 = 1073741825 by omega]
    exact ih (fun x hx => h x (by simp [hx]))
theorem valL_num : ∀ (l : List UInt8) (v : Int), 0 ≤ v → v ≤ 1073741824 → (∀ b ∈ l, 48 ≤ b.toNat ∧ b.toNat ≤ 57) → (numL l v ≤ 1073741824 → valL l v = numL l v) ∧ (1073741824 < numL l v → valL l v = 1073741825) := by
  intro l
  induction l with
  | nil => intro v h0 h1 _; exact ⟨fun _ => rfl, fun h => by simp only [numL] at h; omega⟩
  | cons b l ih =>
    intro v h0 h1 h
    have hb := h b (by simp)
    have hl : ∀ x ∈ l, 48 ≤ x.toNat ∧ x.toNat ≤ 57 := fun x hx => h x (by simp [hx])
    simp only [numL, valL]
    by_cases hm : 1073741824 < 10 * v + ((b.toNat : Int) - 48)
    · rw [if_pos hm, show min (10 * v + ((b.toNat : Int) - 48)) 1073741825 = 1073741825 by omega, valL_top l hl]
      exact ⟨fun hx => by omega, fun _ => rfl⟩
    · rw [if_neg hm, show min (10 * v + ((b.toNat : Int) - 48)) 1073741825 = 10 * v + ((b.toNat : Int) - 48) by omega]
      exact ih _ (by omega) (by omega) hl
theorem valL_le : ∀ (l : List UInt8) (v : Int), 0 ≤ v → v ≤ 1073741825 → (∀ b ∈ l, 48 ≤ b.toNat ∧ b.toNat ≤ 57) → 0 ≤ valL l v ∧ valL l v ≤ 1073741825 := by
  intro l
  induction l with
  | nil => intro v h0 h1 _; exact ⟨h0, h1⟩
  | cons b l ih =>
    intro v h0 h1 h
    have hb := h b (by simp)
    exact ih _ (by omega) (by omega) (fun x hx => h x (by simp [hx]))
set_option maxRecDepth 100000 in
set_option maxHeartbeats 8000000 in
theorem refNumbered_all (s : ByteArray) (a : Int) (hs : s.size ≤ 140737488351000) (h0 : 0 ≤ a) (ha : a < s.size) :
    ∃ v, ((nextNum s a).2 < 0 → v = (nextNum s a).1.num) ∧ ∀ w : World, Calls Tryz.prog 118 #[.string s, .int .i64 a] w fun e w' => e = .returned (.tuple #[.agg #[.int .i64 2, .int .i64 v, .string (nextNum s a).1.text, .int .i64 0, .int .i64 0, .int .i64 0], .int .i64 (ab a (nextNum s a).2), .bool true]) ∧ Below w.heap.size w w' := by
  obtain ⟨k, hk⟩ : ∃ k, run isDigit s a.toNat = k := ⟨_, rfl⟩
  have hrl := run_le isDigit s a.toNat (by omega)
  have hdig := digits_of_run s a h0 (by omega)
  rw [hk] at hrl hdig
  have htx : (s.extract a.toNat (a + (k : Int)).toNat).data.toList = (s.data.toList.drop a.toNat).take k := part_extract s a k h0
  have hall : ∀ b ∈ (s.data.toList.drop a.toNat).take k, 48 ≤ b.toNat ∧ b.toNat ≤ 57 := by
    rw [← htx]
    intro b hb
    obtain ⟨i, hi, rfl⟩ := List.getElem_of_mem hb
    have hi' : i < (s.extract a.toNat (a + (k : Int)).toNat).size := by rw [← len_data]; exact hi
    have := digit_range (hdig i hi')
    have e : (s.extract a.toNat (a + (k : Int)).toNat).data.toList[i] = (s.extract a.toNat (a + (k : Int)).toNat)[i]'hi' := rfl
    rw [e]
    omega
  have hval := valL_num ((s.data.toList.drop a.toNat).take k) 0 (by omega) (by omega) hall
  have hle := valL_le ((s.data.toList.drop a.toNat).take k) 0 (by omega) (by omega) hall
  have hnum : number (s.extract a.toNat (a + (k : Int)).toNat) = numL ((s.data.toList.drop a.toNat).take k) 0 := by unfold number; rw [htx]
  obtain ⟨VV, hVV⟩ : ∃ VV, valL ((s.data.toList.drop a.toNat).take k) 0 = VV := ⟨_, rfl⟩
  have hN : nextNum s a = (⟨2, number (s.extract a.toNat (a + (k : Int)).toNat), s.extract a.toNat (a + (k : Int)).toNat, a, (posOf s a).1, (posOf s a).2⟩, if 1073741824 < number (s.extract a.toNat (a + (k : Int)).toNat) then 0 else if 1 < (k : Int) ∧ bt s a = 48 then 1 else -1) := by rw [← hk]; rfl
  rw [hN, hnum]
  rw [hVV] at hval hle
  generalize numL ((s.data.toList.drop a.toNat).take k) 0 = m at hval ⊢
  have HVV : Aside0 (run isDigit s (a.toNat + 0) = k - 0 ∧ valL ((s.data.toList.drop (a.toNat + 0)).take (k - 0)) 0 = VV) := ⟨hk, hVV⟩
  clear hN hnum hall htx hdig hVV hk
  refine ⟨VV, fun hlt => ?_, ?_⟩
  · simp only at hlt
    split at hlt
    · omega
    · exact hval.1 (by omega)
  · obtain ⟨bad, hbad⟩ : ∃ bad : Int, (if 1073741824 < m then (0 : Int) else if 1 < (k : Int) ∧ bt s a = 48 then 1 else -1) = bad := ⟨_, rfl⟩
    rw [hbad]
    simp only
    intro w
    have HBAD := Aside0.mk hbad
    have HVAL := Aside0.mk hval
    clear hbad hval
    have HDG := Aside0.mk (fun c W => refDigit_any c W)
    go_enter Tryz.func118, Tryz.ntmps118
    go_wp2
    go_loopg [7, 8] (k + 1) (fun f t7 t8 wr => wr = w.alloc (.cells #[.int .i64 0, .int .i64 0, .string ⟨#[]⟩, .int .i64 0, .int .i64 0, .int .i64 0] 121) ∧ ∃ (j : Nat) (v : Int), t7 = .int .i64 (a + (j : Int)) ∧ t8 = .int .i64 v ∧ j + f = k + 1 ∧ j ≤ k ∧ 0 ≤ v ∧ v ≤ 1073741825 ∧ Aside0 (run isDigit s (a.toNat + j) = k - j ∧ valL ((s.data.toList.drop (a.toNat + j)).take (k - j)) v = VV))
    case atStart => exact ⟨rfl, 0, 0, by simp, rfl, by omega, by omega, by omega, by omega, HVV⟩
    case round =>
      obtain ⟨rfl, j, v, rfl, rfl, hj, hjk, v0, v1, hJ⟩ := hrel
      clear HVV
      have hbj : (0 : Int) ≤ a + (j : Int) := by omega
      by_cases hjlt : j < k
      · have hlt : a + (j : Int) < s.size := by omega
        have hx := bt_at s (a + (j : Int))
        have hrc := hJ.out.1
        rw [run_cons _ _ _ (by omega), show ((a.toNat + j : Nat) : Int) = a + (j : Int) by omega] at hrc
        have hd : isDigit (bt s (a + (j : Int))) = true := by
          cases hq : isDigit (bt s (a + (j : Int))) with
          | true => rfl
          | false => rw [hq, if_neg (by decide)] at hrc; omega
        rw [hd, if_pos rfl] at hrc
        have hvl := hJ.out.2
        have hlen : a.toNat + j < s.size := by omega
        rw [drop_cons s (a.toNat + j) hlen, show k - j = (k - (j + 1)) + 1 by omega, List.take_succ_cons, valL] at hvl
        have hbt : ((s[a.toNat + j]'hlen).toNat : Int) = bt s (a + (j : Int)) := by
          have := bt_at s (a + (j : Int)) (by omega)
          rw [← this]
          congr 3
          omega
        rw [hbt] at hvl
        have hdr := digit_range hd
        have HD := Aside0.mk hd
        generalize bt s (a + (j : Int)) = c at hx hdr HD hvl
        obtain ⟨c0, c1⟩ := hdr
        have HJ2 : Aside0 (run isDigit s (a.toNat + (j + 1)) = k - (j + 1) ∧ valL ((s.data.toList.drop (a.toNat + (j + 1))).take (k - (j + 1))) (min (10 * v + (c - 48)) 1073741825) = VV) := ⟨by rw [show a.toNat + (j + 1) = a.toNat + j + 1 by omega]; omega, by rw [show a.toNat + (j + 1) = a.toNat + j + 1 by omega]; exact hvl⟩
        have he : a + (j : Int) + 1 = a + ((j + 1 : Nat) : Int) := by omega
        have HE := Aside0.mk he
        obtain rfl : gk = k - j + 1 := by omega
        clear hd hrc hvl hbt hJ he
        have w1 : IntKind.i64.wrap (10 * v) = 10 * v := IntWalk.i64_in _ (by omega)
        have w2 : IntKind.i64.wrap (10 * v + (c - 48)) = 10 * v + (c - 48) := IntWalk.i64_in _ (by omega)
        go_wp2_with (go_at_call 117; (with_reducible refine (HDG.out _ _).mono ?_); rintro e1 w1 ⟨rfl, rfl⟩; rw [HD.out])
        go_roundg (k - j)
        case measure => omega
        case rel => exact ⟨rfl, j + 1, min (10 * v + (c - 48)) 1073741825, by rw [HE.out], rfl, by omega, by omega, by omega, by omega, HJ2⟩
      · skip
        have hjk2 : k = j := by omega
        subst hjk2
        have hvv := hJ.out.2
        rw [Nat.sub_self, List.take_zero] at hvv
        have hvv2 : v = VV := hvv
        subst hvv2
        have hxa := bt_at s a
        have hsb : IntKind.i64.wrap (a + (k : Int) - a) = (k : Int) := by rw [IntWalk.i64_in _ (by omega)]; omega
        try clear hvv
        by_cases hend : a + (k : Int) < s.size
        · have hx := bt_at s (a + (k : Int))
          have hrc := hJ.out.1
          rw [run_cons _ _ _ (by omega), show ((a.toNat + k : Nat) : Int) = a + (k : Int) by omega] at hrc
          have hd : isDigit (bt s (a + (k : Int))) = false := by
            cases hq : isDigit (bt s (a + (k : Int))) with
            | false => rfl
            | true => rw [hq, if_pos rfl] at hrc; omega
          have HD := Aside0.mk hd
          clear hd hrc hJ
          by_cases hm : 1073741824 < m
          · have hv : 1073741824 < v := by have := HVAL.out.2 hm; omega
            have HAB : Aside0 (a = ab a bad) := ⟨by rw [← HBAD.out, if_pos hm]; simp [ab]⟩
            go_wp2_with (go_at_call 117; (with_reducible refine (HDG.out _ _).mono ?_); rintro e1 w1 ⟨rfl, rfl⟩; rw [HD.out])
            refine bodyPost_ret (results_list (rs := [.cell 4 121, .tmp 5, .tmp 6]) rfl (by simp) (.cell w.heap.size 121 _ (0, 0) _ rfl (heap_alloc (heap_new w _) _) Tryz.underlying121 rfl (size121 _ _ _ _ _ _) (.tmp (.tmp .nil)))) rfl ⟨?_, ((Below.refl _ w).alloc (Nat.le_refl _) _).alloc (by simp) _⟩
            rw [← HAB.out]
            rfl
          · have hv : ¬ 1073741824 < v := by have := HVAL.out.1 (by omega); omega
            by_cases h48 : bt s a = 48
            · have hb48 : (bt s a == 48) = true := by simp [h48]
              by_cases hk1 : 1 < (k : Int)
              · have HAB : Aside0 (a + 1 = ab a bad) := ⟨by rw [← HBAD.out, if_neg hm, if_pos ⟨hk1, h48⟩]; simp [ab]⟩
                clear h48
                go_wp2_with (go_at_call 117; (with_reducible refine (HDG.out _ _).mono ?_); rintro e1 w1 ⟨rfl, rfl⟩; rw [HD.out])
                refine bodyPost_ret (results_list (rs := [.cell 4 121, .tmp 5, .tmp 6]) rfl (by simp) (.cell w.heap.size 121 _ (0, 0) _ rfl (heap_alloc (heap_new w _) _) Tryz.underlying121 rfl (size121 _ _ _ _ _ _) (.tmp (.tmp .nil)))) rfl ⟨?_, ((Below.refl _ w).alloc (Nat.le_refl _) _).alloc (by simp) _⟩
                rw [← HAB.out]
                rfl
              · have HAB : Aside0 (-1 = ab a bad) := ⟨by rw [← HBAD.out, if_neg hm, if_neg (fun q => hk1 q.1)]; simp [ab]⟩
                clear h48
                go_wp2_with (go_at_call 117; (with_reducible refine (HDG.out _ _).mono ?_); rintro e1 w1 ⟨rfl, rfl⟩; rw [HD.out])
                refine bodyPost_ret (results_list (rs := [.cell 4 121, .tmp 5, .tmp 6]) rfl (by simp) (.cell w.heap.size 121 _ (0, 0) _ rfl (heap_alloc (heap_new w _) _) Tryz.underlying121 rfl (size121 _ _ _ _ _ _) (.tmp (.tmp .nil)))) rfl ⟨?_, ((Below.refl _ w).alloc (Nat.le_refl _) _).alloc (by simp) _⟩
                rw [← HAB.out]
                rfl
            · have hb48 : (bt s a == 48) = false := by simp [h48]
              have HAB : Aside0 (-1 = ab a bad) := ⟨by rw [← HBAD.out, if_neg hm, if_neg (fun q => h48 q.2)]; simp [ab]⟩
              clear h48
              go_wp2_with (go_at_call 117; (with_reducible refine (HDG.out _ _).mono ?_); rintro e1 w1 ⟨rfl, rfl⟩; rw [HD.out])
              refine bodyPost_ret (results_list (rs := [.cell 4 121, .tmp 5, .tmp 6]) rfl (by simp) (.cell w.heap.size 121 _ (0, 0) _ rfl (heap_alloc (heap_new w _) _) Tryz.underlying121 rfl (size121 _ _ _ _ _ _) (.tmp (.tmp .nil)))) rfl ⟨?_, ((Below.refl _ w).alloc (Nat.le_refl _) _).alloc (by simp) _⟩
              rw [← HAB.out]
              rfl
        · clear hJ
          by_cases hm : 1073741824 < m
          · have hv : 1073741824 < v := by have := HVAL.out.2 hm; omega
            have HAB : Aside0 (a = ab a bad) := ⟨by rw [← HBAD.out, if_pos hm]; simp [ab]⟩
            go_wp2
            refine bodyPost_ret (results_list (rs := [.cell 4 121, .tmp 5, .tmp 6]) rfl (by simp) (.cell w.heap.size 121 _ (0, 0) _ rfl (heap_alloc (heap_new w _) _) Tryz.underlying121 rfl (size121 _ _ _ _ _ _) (.tmp (.tmp .nil)))) rfl ⟨?_, ((Below.refl _ w).alloc (Nat.le_refl _) _).alloc (by simp) _⟩
            rw [← HAB.out]
            rfl
          · have hv : ¬ 1073741824 < v := by have := HVAL.out.1 (by omega); omega
            by_cases h48 : bt s a = 48
            · have hb48 : (bt s a == 48) = true := by simp [h48]
              by_cases hk1 : 1 < (k : Int)
              · have HAB : Aside0 (a + 1 = ab a bad) := ⟨by rw [← HBAD.out, if_neg hm, if_pos ⟨hk1, h48⟩]; simp [ab]⟩
                clear h48
                go_wp2
                refine bodyPost_ret (results_list (rs := [.cell 4 121, .tmp 5, .tmp 6]) rfl (by simp) (.cell w.heap.size 121 _ (0, 0) _ rfl (heap_alloc (heap_new w _) _) Tryz.underlying121 rfl (size121 _ _ _ _ _ _) (.tmp (.tmp .nil)))) rfl ⟨?_, ((Below.refl _ w).alloc (Nat.le_refl _) _).alloc (by simp) _⟩
                rw [← HAB.out]
                rfl
              · have HAB : Aside0 (-1 = ab a bad) := ⟨by rw [← HBAD.out, if_neg hm, if_neg (fun q => hk1 q.1)]; simp [ab]⟩
                clear h48
                go_wp2
                refine bodyPost_ret (results_list (rs := [.cell 4 121, .tmp 5, .tmp 6]) rfl (by simp) (.cell w.heap.size 121 _ (0, 0) _ rfl (heap_alloc (heap_new w _) _) Tryz.underlying121 rfl (size121 _ _ _ _ _ _) (.tmp (.tmp .nil)))) rfl ⟨?_, ((Below.refl _ w).alloc (Nat.le_refl _) _).alloc (by simp) _⟩
                rw [← HAB.out]
                rfl
            · have hb48 : (bt s a == 48) = false := by simp [h48]
              have HAB : Aside0 (-1 = ab a bad) := ⟨by rw [← HBAD.out, if_neg hm, if_neg (fun q => h48 q.2)]; simp [ab]⟩
              clear h48
              go_wp2
              refine bodyPost_ret (results_list (rs := [.cell 4 121, .tmp 5, .tmp 6]) rfl (by simp) (.cell w.heap.size 121 _ (0, 0) _ rfl (heap_alloc (heap_new w _) _) Tryz.underlying121 rfl (size121 _ _ _ _ _ _) (.tmp (.tmp .nil)))) rfl ⟨?_, ((Below.refl _ w).alloc (Nat.le_refl _) _).alloc (by simp) _⟩
              rw [← HAB.out]
              rfl
end Go.Proofs.YtfnhjdehlikbaaaGreatDoor.Lx
namespace Go.Proofs.YtfnhjdehlikbaaaGreatDoor.Lx
open Go.RowKit Go.Proofs.YtfnhjdehlikbaaaGreatDoorW.PrintWords
theorem prefix_iff (s x : ByteArray) (a : Int) (h0 : 0 ≤ a) (ha : a ≤ s.size) : hasPrefix (s.extract a.toNat s.size) x = true ↔ a + x.size ≤ s.size ∧ (s.extract a.toNat (a + x.size).toNat).toList = x.toList := by
  unfold hasPrefix
  rw [List.isPrefixOf_iff_prefix, List.prefix_iff_eq_take, drop_extract, len_data, ByteArray.toList_eq, ByteArray.toList_eq]
  have hp : (s.extract a.toNat (a + (x.size : Int)).toNat).data.toList = (s.data.toList.drop a.toNat).take x.size := part_extract s a x.size h0
  rw [hp]
  constructor
  · intro h
    refine ⟨?_, h.symm⟩
    have := congrArg List.length h
    rw [len_data, List.length_take, List.length_drop, len_data] at this
    omega
  · exact fun h => h.2.symm
theorem kind_fin : ∀ n : Fin 256, kindOf (n.val : Int) = if isLetter n.val = true then 1 else if isDigit n.val = true then 2 else if isSign 18 n.val = true then 3 else 0 := by decide +kernel
theorem kind_eq (s : ByteArray) (a : Int) : kindOf (bt s a) = if isLetter (bt s a) = true then 1 else if isDigit (bt s a) = true then 2 else if isSign 18 (bt s a) = true then 3 else 0 := by
  obtain ⟨h0, h1⟩ := bt_range s a
  have := kind_fin ⟨(bt s a).toNat, by omega⟩
  simp only [show (((bt s a).toNat : Nat) : Int) = bt s a by omega] at this
  exact this
theorem sign_fin : ∀ n : Fin 256, isSign 18 n.val = true → (sgs.any fun x => x.data.toList == [UInt8.ofNat n.val]) = true := by decide +kernel
theorem first_byte (s : ByteArray) (a : Int) (h0 : 0 ≤ a) (ha : a < s.size) : ∃ l, (s.extract a.toNat s.size).data.toList = UInt8.ofNat (bt s a).toNat :: l := by
  rw [drop_extract, drop_cons s a.toNat (by omega)]
  refine ⟨s.data.toList.drop (a.toNat + 1), ?_⟩
  have := bt_at s a (by omega)
  rw [← this]
  simp
theorem sign_some (s : ByteArray) (a : Int) (h0 : 0 ≤ a) (ha : a < s.size) (h : isSign 18 (bt s a) = true) : ∃ x, sgs.find? (fun x => hasPrefix (s.extract a.toNat s.size) x) = some x := by
  obtain ⟨b0, b1⟩ := bt_range s a
  have hf := sign_fin ⟨(bt s a).toNat, by omega⟩ (by simpa only [show (((bt s a).toNat : Nat) : Int) = bt s a by omega] using h)
  rw [List.any_eq_true] at hf
  obtain ⟨x, hx, hxe⟩ := hf
  obtain ⟨l, hl⟩ := first_byte s a h0 ha
  rw [← Option.isSome_iff_exists, List.find?_isSome]
  refine ⟨x, hx, ?_⟩
  unfold hasPrefix
  simp only [beq_iff_eq] at hxe
  rw [hxe, hl]
  simp
theorem sign_none (s : ByteArray) (a : Int) (h0 : 0 ≤ a) (ha : a < s.size) (h : isSign 18 (bt s a) = false) : sgs.find? (fun x => hasPrefix (s.extract a.toNat s.size) x) = none := by
  obtain ⟨b0, b1⟩ := bt_range s a
  obtain ⟨l, hl⟩ := first_byte s a h0 ha
  rw [List.find?_eq_none]
  intro x hx hp
  have hx2 : ∃ c t, x.data.toList = c :: t := by
    have : ∀ y ∈ sgs, 0 < y.data.toList.length := by decide +kernel
    have := this x hx
    cases hh : x.data.toList with
    | nil => rw [hh] at this; simp at this
    | cons c t => exact ⟨c, t, rfl⟩
  obtain ⟨c, t, hc⟩ := hx2
  unfold hasPrefix at hp
  rw [hc, hl] at hp
  simp at hp
  have hbx : bt x 0 = bt s a := by
    have : bt x 0 = (c.toNat : Int) := by
      rw [bt_list x 0 (by omega), hc]
      rfl
    rw [this, hp.1]
    simp
    omega
  have : isSign 18 (bt s a) = true := by
    unfold isSign
    rw [List.any_eq_true]
    exact ⟨x, by simpa [show sgs.take 18 = sgs from rfl] using hx, by simp [hbx]⟩
  rw [h] at this
  cases this
def CutTo (s : ByteArray) (a : Int) (w : World) (k v : Int) (x : ByteArray) (b : Int) (is : Bool) : Prop :=
  Calls Tryz.prog 81 #[.string s, .int .i64 a] w fun e w' => e = .returned (.tuple #[.agg #[.int .i64 k, .int .i64 v, .string x, .int .i64 0, .int .i64 0, .int .i64 0], .int .i64 b, .bool is]) ∧ Below w.heap.size w w'
set_option maxRecDepth 100000 in
set_option maxHeartbeats 8000000 in
theorem cut_word (s : ByteArray) (a : Int) (w : World) (hs : s.size ≤ 140737488351000) (h0 : 0 ≤ a) (ha : a < s.size) (hl : isLetter (bt s a) = true) :
    CutTo s a w (nextWord s a).1.kind 0 (nextWord s a).1.text (ab a (nextWord s a).2) true := by
  have HW := Aside0.mk (fun W => refWorded_any s a W hs h0 (by omega))
  have HLET := Aside0.mk (fun c W => refLetter_any c W)
  obtain ⟨N, hN⟩ : ∃ N, nextWord s a = N := ⟨_, rfl⟩
  rw [hN] at HW ⊢
  clear hN
  obtain ⟨⟨tk, tn, tx, ta, tl, tc⟩, bad⟩ := N
  simp only at HW ⊢
  have HL := Aside0.mk hl; clear hl
  have hx := bt_at s a
  unfold CutTo
  go_enter Tryz.func81, Tryz.ntmps81
  go_wp2_with (first | (go_at_call 115; (with_reducible refine (HLET.out _ _).mono ?_); rintro e1 w1 ⟨rfl, rfl⟩; rw [HL.out]) | (go_at_call 116; (with_reducible refine (HW.out _).mono ?_); rintro e1 w1 ⟨rfl, hb⟩; have HB1 := Aside0.mk hb; have k0 := (hb.block w.heap.size (by simp)).trans (heap_new w (.cells #[.int .i64 0, .int .i64 0, .string ⟨#[]⟩, .int .i64 0, .int .i64 0, .int .i64 0] 121)); have y0 : w1.cell? ⟨w.heap.size, 0, none⟩ = some (.int .i64 0) := cell_of k0 0; have y1 : w1.cell? ⟨w.heap.size, 1, none⟩ = some (.int .i64 0) := cell_of k0 1; have y2 : w1.cell? ⟨w.heap.size, 2, none⟩ = some (.string ⟨#[]⟩) := cell_of k0 2; have y3 : w1.cell? ⟨w.heap.size, 3, none⟩ = some (.int .i64 0) := cell_of k0 3; have y4 : w1.cell? ⟨w.heap.size, 4, none⟩ = some (.int .i64 0) := cell_of k0 4; have y5 : w1.cell? ⟨w.heap.size, 5, none⟩ = some (.int .i64 0) := cell_of k0 5; have yf := fun i => free_of k0 i; have K0 := Aside0.mk k0; clear hb k0))
  refine bodyPost_ret (results_list (rs := [.cell 4 121, .tmp 5, .tmp 6]) rfl (by simp) (.cell w.heap.size 121 _ (0, 0) _ rfl (set6g K0.out _ _ _ _ _ _) Tryz.underlying121 rfl (size121 _ _ _ _ _ _) (.tmp (.tmp .nil)))) rfl ⟨rfl, below_set6 (((Below.refl _ w).alloc (Nat.le_refl _) _).trans (HB1.out.mono (by simp))) (Nat.le_refl _) _ _ _ _ _ _⟩
set_option maxRecDepth 100000 in
set_option maxHeartbeats 8000000 in
theorem cut_num (s : ByteArray) (a : Int) (hs : s.size ≤ 140737488351000) (h0 : 0 ≤ a) (ha : a < s.size) (hl : isLetter (bt s a) = false) (hd : isDigit (bt s a) = true) :
    ∃ v, ((nextNum s a).2 < 0 → v = (nextNum s a).1.num) ∧ ∀ w, CutTo s a w 2 v (nextNum s a).1.text (ab a (nextNum s a).2) true := by
  have hv : ∃ v, ((nextNum s a).2 < 0 → v = (nextNum s a).1.num) ∧ ∀ W, Calls Tryz.prog 118 #[.string s, .int .i64 a] W fun e w' => e = .returned (.tuple #[.agg #[.int .i64 2, .int .i64 v, .string (nextNum s a).1.text, .int .i64 0, .int .i64 0, .int .i64 0], .int .i64 (ab a (nextNum s a).2), .bool true]) ∧ Below W.heap.size W w' := refNumbered_all s a hs h0 ha
  obtain ⟨v, hv1, hv2⟩ := hv
  refine ⟨v, hv1, ?_⟩
  have HW := Aside0.mk hv2
  clear hv1 hv2
  have HLET := Aside0.mk (fun c W => refLetter_any c W)
  have HDG := Aside0.mk (fun c W => refDigit_any c W)
  obtain ⟨N, hN⟩ : ∃ N, nextNum s a = N := ⟨_, rfl⟩
  rw [hN] at HW ⊢
  clear hN
  obtain ⟨⟨tk, tn, tx, ta, tl, tc⟩, bad⟩ := N
  simp only at HW ⊢
  have HL := Aside0.mk hl; clear hl
  have HD := Aside0.mk hd; clear hd
  have hx := bt_at s a
  intro w
  unfold CutTo
  go_enter Tryz.func81, Tryz.ntmps81
  go_wp2_with (first | (go_at_call 115; (with_reducible refine (HLET.out _ _).mono ?_); rintro e1 w1 ⟨rfl, rfl⟩; rw [HL.out]) | (go_at_call 117; (with_reducible refine (HDG.out _ _).mono ?_); rintro e1 w1 ⟨rfl, rfl⟩; rw [HD.out]) | (go_at_call 118; (with_reducible refine (HW.out _).mono ?_); rintro e1 w1 ⟨rfl, hb⟩; have HB1 := Aside0.mk hb; have k0 := (hb.block w.heap.size (by simp)).trans (heap_new w (.cells #[.int .i64 0, .int .i64 0, .string ⟨#[]⟩, .int .i64 0, .int .i64 0, .int .i64 0] 121)); have y0 : w1.cell? ⟨w.heap.size, 0, none⟩ = some (.int .i64 0) := cell_of k0 0; have y1 : w1.cell? ⟨w.heap.size, 1, none⟩ = some (.int .i64 0) := cell_of k0 1; have y2 : w1.cell? ⟨w.heap.size, 2, none⟩ = some (.string ⟨#[]⟩) := cell_of k0 2; have y3 : w1.cell? ⟨w.heap.size, 3, none⟩ = some (.int .i64 0) := cell_of k0 3; have y4 : w1.cell? ⟨w.heap.size, 4, none⟩ = some (.int .i64 0) := cell_of k0 4; have y5 : w1.cell? ⟨w.heap.size, 5, none⟩ = some (.int .i64 0) := cell_of k0 5; have yf := fun i => free_of k0 i; have K0 := Aside0.mk k0; clear hb k0))
  refine bodyPost_ret (results_list (rs := [.cell 4 121, .tmp 5, .tmp 6]) rfl (by simp) (.cell w.heap.size 121 _ (0, 0) _ rfl (set6g K0.out _ _ _ _ _ _) Tryz.underlying121 rfl (size121 _ _ _ _ _ _) (.tmp (.tmp .nil)))) rfl ⟨rfl, below_set6 (((Below.refl _ w).alloc (Nat.le_refl _) _).trans (HB1.out.mono (by simp))) (Nat.le_refl _) _ _ _ _ _ _⟩
end Go.Proofs.YtfnhjdehlikbaaaGreatDoor.Lx
namespace Go.Proofs.YtfnhjdehlikbaaaGreatDoor.Lx
open Go.RowKit Go.Proofs.YtfnhjdehlikbaaaGreatDoorW.PrintWords
structure SgAt (w W : World) : Prop where
  res : W.heap[w.heap.size]? = some (.cells #[.int .i64 0, .int .i64 0, .string ⟨#[]⟩, .int .i64 0, .int .i64 0, .int .i64 0] 121)
  sg : W.heap[w.heap.size + 1]? = some (.cells (sgs.map Value.string).toArray 9)
  below : Below w.heap.size w W
theorem SgAt.step {w W W' : World} (h : SgAt w W) (hb : Below W.heap.size W W') : SgAt w W' :=
  ⟨(hb.block _ (heap_lt h.res)).trans h.res, (hb.block _ (heap_lt h.sg)).trans h.sg, h.below.trans (hb.mono h.below.size)⟩
theorem bdrewN (w : World) (n : Nat) : Below w.heap.size w (w.drewN n) := ⟨rfl, rfl, rfl, Nat.le_refl _, fun _ _ => rfl⟩
def signTo (s : ByteArray) (a : Int) : Int × ByteArray × Bool := match sgs.find? (fun x => hasPrefix (s.extract a.toNat s.size) x) with | some x => (3, x, true) | none => (0, ⟨#[]⟩, false)
set_option maxRecDepth 100000 in
set_option maxHeartbeats 8000000 in
theorem cut_sign (s : ByteArray) (a : Int) (w : World) (hs : s.size ≤ 140737488351000) (h0 : 0 ≤ a) (ha : a < s.size) (hl : isLetter (bt s a) = false) (hd : isDigit (bt s a) = false) :
    CutTo s a w (signTo s a).1 0 (signTo s a).2.1 (-1) (signTo s a).2.2 := by
  obtain ⟨R, hR⟩ : ∃ R, signTo s a = R := ⟨_, rfl⟩
  rw [hR]
  have HR := Aside0.mk hR
  clear hR
  obtain ⟨rk, rx, rb⟩ := R
  simp only
  have HLET := Aside0.mk (fun c W => refLetter_any c W)
  have HDG := Aside0.mk (fun c W => refDigit_any c W)
  have HSG := Aside0.mk (fun W => refSigns_any W)
  have HL := Aside0.mk hl; clear hl
  have HD := Aside0.mk hd; clear hd
  have hx := bt_at s a
  unfold CutTo
  go_enter Tryz.func81, Tryz.ntmps81
  go_wp2_with (first | (go_at_call 115; (with_reducible refine (HLET.out _ _).mono ?_); rintro e1 w1 ⟨rfl, rfl⟩; rw [HL.out]) | (go_at_call 117; (with_reducible refine (HDG.out _ _).mono ?_); rintro e1 w1 ⟨rfl, rfl⟩; rw [HD.out]) | (go_at_call 119; (with_reducible refine (HSG.out _).mono ?_); rintro e1 w1 ⟨rfl, rfl⟩))
  clear hx
  have hS0 : SgAt w ((w.alloc (.cells #[.int .i64 0, .int .i64 0, .string ⟨#[]⟩, .int .i64 0, .int .i64 0, .int .i64 0] 121)).alloc (.cells (sgs.map Value.string).toArray 9)) := ⟨heap_alloc (heap_new w _) _, heap_new' (w.alloc _) _ _ (by simp), ((Below.refl _ w).alloc (Nat.le_refl _) _).alloc (by simp) _⟩
  have HS0 := Aside0.mk hS0
  clear hS0
  go_loopg [8] 19 (fun f t8 wr => ∃ k : Nat, t8 = .int .i64 (k : Int) ∧ k + f = 19 ∧ k ≤ 18 ∧ Aside0 (SgAt w wr ∧ (sgs.take k).find? (fun x => hasPrefix (s.extract a.toNat s.size) x) = none))
  case atStart => exact ⟨0, rfl, by omega, by omega, ⟨HS0.out, rfl⟩⟩
  case round =>
    obtain ⟨k, rfl, hkf, hk18, hA⟩ := hrel
    clear HS0
    have HSA := Aside0.mk hA.out.1
    have HFN := Aside0.mk hA.out.2
    clear hA
    by_cases hk : k < 18
    · have hlt : k < sgs.length := hk
      have c0 : wr.cell? ⟨w.heap.size + 1, k, none⟩ = some (.string sgs[k]) := by
        rw [cell_of HSA.out.sg]
        simp [hlt]
      have hsz : sgs[k].size ≤ 2 := by
        have := sgs_size k hk
        simpa [hlt] using this
      have hft := find_take (fun x => hasPrefix (s.extract a.toNat s.size) x) k hk HFN.out
      have hgd : sgs[k]?.getD ⟨#[]⟩ = sgs[k] := by simp [hlt]
      rw [hgd] at hft
      have hpi := prefix_iff s sgs[k] a h0 (by omega)
      have hfull : ∀ x, (sgs.take (k + 1)).find? (fun x => hasPrefix (s.extract a.toNat s.size) x) = some x → sgs.find? (fun x => hasPrefix (s.extract a.toNat s.size) x) = some x := by
        intro x hxx
        have := List.take_append_drop (k + 1) sgs
        rw [← this, List.find?_append, hxx]
        rfl
      have hcell : ∀ W, SgAt w W → W.cell? ⟨w.heap.size + 1, k, none⟩ = some (.string sgs[k]) := fun W h => by
        rw [cell_of h.sg]
        simp [hlt]
      generalize sgs[k] = x at c0 hsz hft hpi hcell
      have HCE := Aside0.mk hcell
      clear hcell
      have hk0 : (0 : Int) ≤ (k : Int) := by omega
      have hk1 : (k : Int) < 18 := by omega
      have w1 : IntKind.i64.wrap (a + (x.size : Int)) = a + (x.size : Int) := IntWalk.i64_in _ (by omega)
      have hxn : (0 : Int) ≤ a + (x.size : Int) := by omega
      have hxa : a ≤ a + (x.size : Int) := by omega
      cases hp : hasPrefix (s.extract a.toNat s.size) x with
      | true =>
        obtain ⟨p1, p2⟩ := hpi.1 hp
        rw [if_pos hp] at hft
        have HF := Aside0.mk (hfull x hft)
        have p3 : ((s.extract a.toNat (a + (x.size : Int)).toNat).toList == x.toList) = true := by rw [p2]; simp
        have HRR : Aside0 (rk = 3 ∧ rx = x ∧ rb = true) := ⟨by
          have := HR.out
          unfold signTo at this
          rw [HF.out] at this
          injection this with e1 e2
          injection e2 with e2 e3
          exact ⟨e1.symm, e2.symm, e3.symm⟩⟩
        have p1d : decide (a + (x.size : Int) ≤ (s.size : Int)) = true := decide_eq_true p1
        clear hpi hp hft hfull p2
        go_upto_region 11 with (fail)
        go_quiet (fail)
        have hz := HSA.out.step (bdrewN wr nq)
        generalize wr.drewN nq = wz at hz ⊢
        clear c0
        have c0 := HCE.out wz hz
        have y0 : wz.cell? ⟨w.heap.size, 0, none⟩ = some (.int .i64 0) := cell_of hz.res 0
        have y1 : wz.cell? ⟨w.heap.size, 1, none⟩ = some (.int .i64 0) := cell_of hz.res 1
        have y2 : wz.cell? ⟨w.heap.size, 2, none⟩ = some (.string ⟨#[]⟩) := cell_of hz.res 2
        have y3 : wz.cell? ⟨w.heap.size, 3, none⟩ = some (.int .i64 0) := cell_of hz.res 3
        have y4 : wz.cell? ⟨w.heap.size, 4, none⟩ = some (.int .i64 0) := cell_of hz.res 4
        have y5 : wz.cell? ⟨w.heap.size, 5, none⟩ = some (.int .i64 0) := cell_of hz.res 5
        have yf := fun i => free_of hz.res i
        have HZ := Aside0.mk hz
        clear hz
        go_wp2
        refine bodyPost_ret (results_list (rs := [.cell 4 121, .tmp 5, .tmp 6]) rfl (by simp) (.cell w.heap.size 121 _ (0, 0) _ rfl (set6g HZ.out.res _ _ _ _ _ _) Tryz.underlying121 rfl (size121 _ _ _ _ _ _) (.tmp (.tmp .nil)))) rfl ⟨?_, below_set6 HZ.out.below (Nat.le_refl _) _ _ _ _ _ _⟩
        obtain ⟨e1, e2, e3⟩ := HRR.out
        subst e1 e2 e3
        rfl
      | false =>
        rw [hp, if_neg (by decide)] at hft
        have HFT : Aside0 ((sgs.take (k + 1)).find? (fun x => hasPrefix (s.extract a.toNat s.size) x) = none) := ⟨hft⟩
        have hf2 : k + 1 + (gk - 1) = 19 := by omega
        obtain ⟨f, rfl⟩ : ∃ f, gk = f + 1 := ⟨gk - 1, by omega⟩
        by_cases hle : a + (x.size : Int) ≤ s.size
        · have p3 : ((s.extract a.toNat (a + (x.size : Int)).toNat).toList == x.toList) = false := by
            rw [beq_eq_false_iff_ne]
            intro h
            rw [hpi.2 ⟨hle, h⟩] at hp
            cases hp
          have p1d : decide (a + (x.size : Int) ≤ (s.size : Int)) = true := decide_eq_true hle
          clear hpi hp hft hfull
          go_upto_region 11 with (fail)
          go_quiet (fail)
          go_wp2
          go_roundg f
          case measure => omega
          case rel => exact ⟨k + 1, by go_num, by omega, by omega, ⟨HSA.out.step (bdrewN _ _), HFT.out⟩⟩
        · have hle2 : decide (a + (x.size : Int) ≤ (s.size : Int)) = false := decide_eq_false hle
          clear hpi hp hft hfull
          go_upto_region 11 with (fail)
          go_quiet (fail)
          go_wp2
          go_roundg f
          case measure => omega
          case rel => exact ⟨k + 1, by go_num, by omega, by omega, ⟨HSA.out.step (bdrewN _ _), HFT.out⟩⟩
    · obtain rfl : k = 18 := by omega
      have HRR : Aside0 (rk = 0 ∧ rx = ⟨#[]⟩ ∧ rb = false) := ⟨by
        have := HR.out
        unfold signTo at this
        have hf : sgs.find? (fun x => hasPrefix (s.extract a.toNat s.size) x) = none := HFN.out
        rw [hf] at this
        injection this with e1 e2
        injection e2 with e2 e3
        exact ⟨e1.symm, e2.symm, e3.symm⟩⟩
      have y0 : wr.cell? ⟨w.heap.size, 0, none⟩ = some (.int .i64 0) := cell_of HSA.out.res 0
      have y1 : wr.cell? ⟨w.heap.size, 1, none⟩ = some (.int .i64 0) := cell_of HSA.out.res 1
      have y2 : wr.cell? ⟨w.heap.size, 2, none⟩ = some (.string ⟨#[]⟩) := cell_of HSA.out.res 2
      have y3 : wr.cell? ⟨w.heap.size, 3, none⟩ = some (.int .i64 0) := cell_of HSA.out.res 3
      have y4 : wr.cell? ⟨w.heap.size, 4, none⟩ = some (.int .i64 0) := cell_of HSA.out.res 4
      have y5 : wr.cell? ⟨w.heap.size, 5, none⟩ = some (.int .i64 0) := cell_of HSA.out.res 5
      have yf := fun i => free_of HSA.out.res i
      go_wp2
      refine bodyPost_ret (results_list (rs := [.cell 4 121, .tmp 5, .tmp 6]) rfl (by simp) (.cell w.heap.size 121 _ (0, 0) _ rfl (set6g HSA.out.res _ _ _ _ _ _) Tryz.underlying121 rfl (size121 _ _ _ _ _ _) (.tmp (.tmp .nil)))) rfl ⟨?_, below_set6 HSA.out.below (Nat.le_refl _) _ _ _ _ _ _⟩
      obtain ⟨e1, e2, e3⟩ := HRR.out
      subst e1 e2 e3
      rfl
end Go.Proofs.YtfnhjdehlikbaaaGreatDoor.Lx
namespace Go.Proofs.YtfnhjdehlikbaaaGreatDoor.Lx
open Go.RowKit Go.Proofs.YtfnhjdehlikbaaaGreatDoorW.PrintWords
theorem refCut_any (s : ByteArray) (hs : s.size ≤ 140737488351000) (a : Int) (h0 : 0 ≤ a) (ha : a < s.size) :
    if kindOf (bt s a) = 0 then ∀ w, CutTo s a w 0 0 ⟨#[]⟩ (-1) false
    else ∃ v, ((nextOf s a (kindOf (bt s a))).2 < 0 → v = (nextOf s a (kindOf (bt s a))).1.num) ∧ ∀ w, CutTo s a w (nextOf s a (kindOf (bt s a))).1.kind v (nextOf s a (kindOf (bt s a))).1.text (ab a (nextOf s a (kindOf (bt s a))).2) true := by
  have hk := kind_eq s a
  by_cases hl : isLetter (bt s a) = true
  · rw [if_pos hl] at hk
    rw [hk, if_neg (by omega)]
    exact ⟨(nextOf s a 1).1.num, fun _ => rfl, fun w => cut_word s a w hs h0 ha hl⟩
  · have hl2 : isLetter (bt s a) = false := by simpa using hl
    rw [if_neg hl] at hk
    by_cases hd : isDigit (bt s a) = true
    · rw [if_pos hd] at hk
      rw [hk, if_neg (by omega)]
      exact cut_num s a hs h0 ha hl2 hd
    · have hd2 : isDigit (bt s a) = false := by simpa using hd
      rw [if_neg hd] at hk
      have hc := fun w => cut_sign s a w hs h0 ha hl2 hd2
      by_cases hsg : isSign 18 (bt s a) = true
      · rw [if_pos hsg] at hk
        rw [hk, if_neg (by omega)]
        obtain ⟨x, hx⟩ := sign_some s a h0 ha hsg
        have hst : signTo s a = (3, x, true) := by unfold signTo; rw [hx]
        rw [hst] at hc
        have hlo : longest (s.extract a.toNat s.size) = x := by unfold longest; rw [hx]; rfl
        have hp := (prefix_iff s x a h0 (by omega)).1 (List.find?_some hx)
        have hxe : s.extract a.toNat (a + (x.size : Int)).toNat = x := by
          have h2 := hp.2
          rw [ByteArray.toList_eq, ByteArray.toList_eq] at h2
          exact ByteArray.ext (Array.toList_inj.1 h2)
        have hxp : 0 < x.size := by
          have : ∀ y ∈ sgs, 0 < y.size := by decide +kernel
          exact this x (List.mem_of_find?_eq_some hx)
        refine ⟨0, fun _ => rfl, ?_⟩
        have e : nextOf s a 3 = (⟨3, 0, x, a, (posOf s a).1, (posOf s a).2⟩, -1) := by
          simp only [nextOf, nextSign, show ¬ (3 : Int) = 1 by omega, show ¬ (3 : Int) = 2 by omega, if_false, hlo, hxe]
          rw [if_neg (by omega)]
        rw [e]
        exact hc
      · rw [if_neg hsg] at hk
        rw [hk, if_pos rfl]
        have hst : signTo s a = (0, ⟨#[]⟩, false) := by unfold signTo; rw [sign_none s a h0 ha (by simpa using hsg)]
        rw [hst] at hc
        exact hc
end Go.Proofs.YtfnhjdehlikbaaaGreatDoor.Lx
namespace Go.Proofs.YtfnhjdehlikbaaaGreatDoor.Lx
open Go.RowKit Go.Proofs.YtfnhjdehlikbaaaGreatDoorW.PrintWords
theorem info121 : (Tryz.prog.info? 121).map (fun i => (i.zero, i.size, i.bytes)) = some (some (.agg #[.int .i64 0, .int .i64 0, .string ⟨#[]⟩, .int .i64 0, .int .i64 0, .int .i64 0]), 6, 56) := by kernel_rfl
theorem flat_at : ∀ (st : List Tok) (i j : Nat) (v : Tok), st[i]? = some v → j < 6 → (flat st)[i * 6 + j]? = v.cells.toList[j]? := by
  intro st
  induction st with
  | nil => intro i j v h; simp at h
  | cons a st ih =>
    intro i j v h hj
    have e : flat (a :: st) = a.cells.toList ++ flat st := by simp [flat]
    rw [e]
    have ha : a.cells.toList.length = 6 := rfl
    cases i with
    | zero =>
      simp at h
      subst h
      rw [Nat.zero_mul, Nat.zero_add, List.getElem?_append_left (by omega)]
    | succ i =>
      simp at h
      rw [List.getElem?_append_right (by omega), ← ih i j v h hj]
      congr 1
      omega
theorem posOf_succ (s : ByteArray) (i : Nat) (h : i < s.size) : posOf s (i + 1 : Nat) = if bt s i = 10 then ((posOf s i).1 + 1, 0) else ((posOf s i).1, (posOf s i).2 + 1) := by
  unfold posOf
  rw [Int.toNat_natCast, Int.toNat_natCast]
  have hl : i < s.data.toList.length := by rw [len_data]; exact h
  rw [List.take_succ_eq_append_getElem hl, adv_snoc]
  have e : bt s i = ((s.data.toList[i]).toNat : Int) := (bt_at s i h).symm
  rw [e]
  by_cases hb : s.data.toList[i] = 10
  · rw [if_pos hb, hb, if_pos (by decide)]
  · rw [if_neg hb, if_neg (fun hh => hb (UInt8.toNat_inj.1 (by show _ = 10; omega)))]
theorem layL_le (s : ByteArray) : ∀ (f : Nat) (a : Int), 0 ≤ a → a ≤ s.size → layL s f a ≤ s.size := by
  intro f
  induction f with
  | zero => intro a _ h; exact h
  | succ f ih =>
    intro a h0 h
    simp only [layL]
    split
    · split
      · exact ih (a + 1) (by omega) (by omega)
      · split
        · have := run_le (fun c => c != 10) s a.toNat (by omega)
          exact ih _ (by omega) (by omega)
        · exact h
    · exact h
theorem next_place (s : ByteArray) (b k : Int) : (nextOf s b k).1.at_ = b ∧ (nextOf s b k).1.line = (posOf s b).1 ∧ (nextOf s b k).1.col = (posOf s b).2 := by
  unfold nextOf
  split
  · exact ⟨rfl, rfl, rfl⟩
  · split
    · exact ⟨rfl, rfl, rfl⟩
    · exact ⟨rfl, rfl, rfl⟩
theorem srcC_nil (A : Option Addr) (W : World) : SrcC A [] W := fun i t h => by simp at h
theorem srcC_of_own {W : World} {B : Nat} {v : Value} {out : List Tok} (h : W.ownsRow B 121 6 v out.length (flat out)) : ∃ O c, v = .slice O out.length c ∧ out.length ≤ c ∧ SrcC O out W := by
  rcases h.2 with ⟨h1, h2⟩ | ⟨g, cap, cur, h1, _, _, hc, _⟩
  · refine ⟨none, 0, by rw [h2]; exact h1, by omega, fun i t hi => ?_⟩
    rw [List.eq_nil_of_length_eq_zero h2] at hi
    simp at hi
  · refine ⟨some ⟨g, 0, none⟩, cap, h1, hc, fun i t hi => ⟨g, rfl, ?_⟩⟩
    subst h1
    have hcs := h.cells rfl
    have e : ∀ k, (⟨g, 0, none⟩ : Addr).add k = ⟨g, k, none⟩ := fun k => by unfold Addr.add; split <;> simp_all
    have r : ∀ j u, j < 6 → t.cells.toList[j]? = some u → W.cell? ⟨g, i * 6 + j, none⟩ = some u := fun j u hj hu => by
      rw [← e]
      exact hcs _ _ ((flat_at out i j t hi hj).trans hu)
    exact ⟨r 0 _ (by omega) rfl, r 1 _ (by omega) rfl, r 2 _ (by omega) rfl, r 3 _ (by omega) rfl, r 4 _ (by omega) rfl, r 5 _ (by omega) rfl⟩
set_option maxRecDepth 100000 in
set_option maxHeartbeats 8000000 in
theorem cut_end (s : ByteArray) (a : Int) (w : World) (h : (s.size : Int) ≤ a) : CutTo s a w 0 0 ⟨#[]⟩ (-1) false := by
  unfold CutTo
  go_enter Tryz.func81, Tryz.ntmps81
  go_wp2
  refine bodyPost_ret (results_list (rs := [.cell 4 121, .tmp 5, .tmp 6]) rfl (by simp) (.cell w.heap.size 121 _ (0, 0) _ rfl (heap_new w _) Tryz.underlying121 rfl (size121 _ _ _ _ _ _) (.tmp (.tmp .nil)))) rfl ⟨rfl, (Below.refl _ w).alloc (Nat.le_refl _) _⟩
structure RawAt (w : World) (l : List Tok) (v : Value) (W : World) : Prop where
  own : W.ownsRow w.heap.size 121 6 v l.length (flat l)
  below : Below w.heap.size w W
theorem RawAt.step {w W W' : World} {l : List Tok} {v : Value} (h : RawAt w l v W) (hb : Below W.heap.size W W') : RawAt w l v W' :=
  ⟨own_move h.own (fun k hk => hb.block k (own_lt h.own k hk)), h.below.trans (hb.mono h.below.size)⟩
structure Seen (s : ByteArray) (b ln fr : Int) (i : Nat) : Prop where
  le : (i : Int) ≤ b
  pos : posOf s i = (ln, i - fr)
set_option maxRecDepth 100000 in
set_option maxHeartbeats 16000000 in
theorem refRaw_any (s : ByteArray) (w : World) (hs : s.size ≤ 140737488351000) : Calls Tryz.prog 40 #[.string s] w fun e w' => ∃ A c, e = .returned (.tuple #[.slice A (rawF s).1.length c, .int .i64 (rawF s).2.1, .int .i64 (rawF s).2.2]) ∧ SrcC A (rawF s).1 w' ∧ (rawF s).1.length ≤ c ∧ Below w.heap.size w w' := by
  by_cases hbig : (65536 : Int) < s.size
  · have hr : rawF s = ([], 0, 11) := by unfold rawF; rw [if_pos hbig]
    rw [hr]
    go_enter Tryz.func40, Tryz.ntmps40
    go_wp2
    go_ret3
    exact ⟨none, 0, rfl, srcC_nil _ _, Nat.le_refl _, Below.refl _ _⟩
  · have hr : rawF s = rawAll s := by unfold rawF; rw [if_neg hbig]
    rw [hr]
    unfold rawAll
    obtain ⟨R, hR⟩ : ∃ R, rawL s (s.size + 2) 0 [] = R := ⟨_, rfl⟩
    rw [hR]
    have HR0 := Aside0.mk hR
    clear hr hR
    obtain ⟨i0, hi, hz0, hz1, hz2⟩ := info_parts info121
    have HI := Aside0.mk hi; clear hi
    have HZ0 := Aside0.mk hz0; clear hz0
    have HZ1 := Aside0.mk hz1; clear hz1
    have HZ2 := Aside0.mk hz2; clear hz2
    have HPA := Aside0.mk (fun a W h0 h1 => refPast_any s a W (by omega) h0 h1)
    have HS := Aside0.mk hs
    clear hs
    go_enter Tryz.func40, Tryz.ntmps40
    go_wp2_with (go_at_call 80; (with_reducible refine (HPA.out _ _ (by omega) (by omega)).mono ?_); rintro e w1 ⟨rfl, rfl⟩)
    go_loopg [5, 6, 7, 8, 9] (s.size + 3) (fun f t5 t6 t7 t8 t9 wr => ∃ (A' : Option Addr) (c' n : Nat) (acc : List Tok) (a b ln fr : Int) (i fu : Nat), t5 = .slice A' n c' ∧ t6 = .int .i64 ln ∧ t7 = .int .i64 fr ∧ t8 = .int .i64 (i : Int) ∧ t9 = .int .i64 b ∧ 0 ≤ b ∧ b ≤ s.size ∧ n ≤ 4000 ∧ Aside0 (acc.length = n ∧ lay s a = b ∧ 0 ≤ a ∧ a ≤ s.size ∧ (s.size : Int) + 2 ≤ a + fu ∧ fu + 1 ≤ f ∧ rawL s fu a acc = R) ∧ Aside0 (Seen s b ln fr i) ∧ Aside0 (RawAt w acc (.slice A' n c') wr))
    case atStart => exact ⟨none, 0, 0, [], 0, _, 0, 0, 0, s.size + 2, rfl, rfl, rfl, rfl, rfl, lay_ge s (s.size + 1) 0, layL_le s _ 0 (by omega) (by omega), by omega, ⟨rfl, rfl, by omega, by omega, by omega, by omega, HR0.out⟩, ⟨lay_ge s (s.size + 1) 0, rfl⟩, ⟨World.ownsRow_nil _ _ _ _, Below.refl _ _⟩⟩
    case round =>
      obtain ⟨A', c', n, acc, a, b, ln, fr, i, fu, rfl, rfl, rfl, rfl, rfl, hb0, hb1, hn, HA, HSE, HRA⟩ := hrel
      clear HR0
      obtain ⟨hlen, hlay, ha0, ha1, hfu, hff, hRR⟩ := HA.out
      have hge : a ≤ b := by rw [← hlay]; exact lay_ge s _ a
      by_cases hend : b = s.size
      · have hR2 : R = (acc, 0, 0) := by
          cases fu with
          | zero => omega
          | succ fu => rw [← hRR, rawL, hlay, if_pos hend]
        have HR2 := Aside0.mk hR2
        have hlt : ¬ b < (s.size : Int) := by omega
        have HRW : Aside0 (wr.ownsRow w.heap.size 121 6 (.slice A' n c') acc.length (flat acc)) := ⟨HRA.out.own⟩
        have HL := Aside0.mk hlen
        clear hR2 hRR hend HA hlen hlay ha0 ha1 hfu hff hge
        go_wp2
        go_ret3
        have hR9 := HR2.out
        have hL9 := HL.out
        subst hR9 hL9
        obtain ⟨O, c, hv, hc, hsr⟩ := srcC_of_own HRW.out
        injection hv with e1 e2 e3
        subst e1 e3
        exact ⟨_, _, rfl, hsr, hc, HRA.out.below⟩
      · obtain ⟨fu, rfl⟩ : ∃ k, fu = k + 1 := ⟨fu - 1, by omega⟩
        have hlt : b < (s.size : Int) := by omega
        rw [rawL, hlay, if_neg hend] at hRR
        clear hlay hend HA
        have hc := refCut_any s HS.out b hb0 hlt
        by_cases hk : kindOf (bt s b) = 0
        · rw [if_pos hk] at hc hRR
          have HRR := Aside0.mk hRR
          have HC : Aside0 (∀ W : World, Calls Tryz.prog 81 #[.string s, .int .i64 b] W fun e w' => e = .returned (.tuple #[.agg #[.int .i64 0, .int .i64 0, .string ⟨#[]⟩, .int .i64 0, .int .i64 0, .int .i64 0], .int .i64 (-1), .bool false]) ∧ Below W.heap.size W w') := ⟨hc⟩
          clear hc hRR hk
          go_wp2_with (go_at_call 81; (with_reducible refine (HC.out _).mono ?_); rintro e w1 ⟨rfl, hb⟩; have HB := Aside0.mk (HRA.out.below.trans (hb.mono HRA.out.below.size)); clear hb)
          go_ret3
          rw [← HRR.out]
          exact ⟨none, 0, rfl, srcC_nil _ _, Nat.le_refl _, HB.out.alloc HB.out.size _⟩
        · rw [if_neg hk] at hc hRR
          have hnp := next_pos s b (by omega) (by omega) hk
          obtain ⟨nf1, nf2, nf3⟩ := next_fits s b (kindOf (bt s b)) (by omega) (by omega)
          obtain ⟨np1, np2, np3⟩ := next_place s b (kindOf (bt s b))
          generalize nextOf s b (kindOf (bt s b)) = P at hc hnp nf1 nf2 nf3 np1 np2 np3 hRR
          obtain ⟨⟨tk, tn, tx, ta, tl, tc⟩, bad⟩ := P
          simp only at hc hnp nf1 nf2 nf3 np1 np2 np3 hRR
          obtain ⟨v, hv, hc⟩ := hc
          obtain ⟨bb, hbb⟩ : ∃ bb, ab b bad = bb := ⟨_, rfl⟩
          have HC : Aside0 (∀ W : World, Calls Tryz.prog 81 #[.string s, .int .i64 b] W fun e w' => e = .returned (.tuple #[.agg #[.int .i64 tk, .int .i64 v, .string tx, .int .i64 0, .int .i64 0, .int .i64 0], .int .i64 bb, .bool true]) ∧ Below W.heap.size W w') := ⟨hbb ▸ hc⟩
          clear hc hk
          by_cases hm : n = 4000
          · subst hm
            rw [if_pos (by omega)] at hRR
            have HRR := Aside0.mk hRR
            clear hRR hnp nf1 nf2 nf3 np1 np2 np3 hv hbb hlen ha0 ha1 hfu hff hge
            go_wp2_with (go_at_call 81; (with_reducible refine (HC.out _).mono ?_); rintro e w1 ⟨rfl, hb⟩; have HB := Aside0.mk (HRA.out.below.trans (hb.mono HRA.out.below.size)); clear hb)
            go_ret3
            rw [← HRR.out]
            exact ⟨none, 0, rfl, srcC_nil _ _, Nat.le_refl _, HB.out.alloc HB.out.size _⟩
          · have hnb : ((n : Int) == 4000) = false := beq_eq_false_iff_ne.2 (by omega)
            rw [if_neg (by omega)] at hRR
            by_cases hbd : 0 ≤ bad
            · rw [if_pos hbd] at hRR
              rw [ab_pos (by omega)] at hbb
              have HRR := Aside0.mk hRR
              have hbb0 : 0 ≤ bb := by omega
              subst hbb
              clear hRR hnp nf1 np1 np2 np3 hv hlen ha0 ha1 hfu hff hge
              go_wp2_with (go_at_call 81; (with_reducible refine (HC.out _).mono ?_); rintro e w1 ⟨rfl, hb⟩; have HB := Aside0.mk (HRA.out.below.trans (hb.mono HRA.out.below.size)); clear hb)
              go_ret3
              rw [← HRR.out]
              exact ⟨none, 0, rfl, srcC_nil _ _, Nat.le_refl _, HB.out.alloc HB.out.size _⟩
            · rw [if_neg hbd] at hRR
              rw [ab_neg (by omega)] at hbb
              subst hbb
              have hv1 := hv (by omega)
              obtain rfl : tn = v := hv1.symm
              have hp1 := hnp (by omega)
              have HRR := Aside0.mk hRR
              have HNP := Aside0.mk (show ta = b ∧ tl = (posOf s b).1 ∧ tc = (posOf s b).2 from ⟨np1, np2, np3⟩)
              have HLE := Aside0.mk hlen
              obtain ⟨fo, rfl⟩ : ∃ f, gk = f + 1 := ⟨gk - 1, by omega⟩
              have HFU : Aside0 ((s.size : Int) + 2 ≤ a + ((fu + 1 : Nat) : Int) ∧ fu + 1 ≤ fo ∧ a ≤ b) := ⟨hfu, by omega, hge⟩
              have hn4 : n + 1 ≤ 4000 := by omega
              clear hRR hnp hv np1 np2 np3 hbd hm hlen ha0 ha1 hfu hff hge nf2 nf3
              obtain ⟨wo, rfl⟩ : ∃ wo : World, wo = wr := ⟨_, rfl⟩
              have w0 : IntKind.i64.wrap (b + (tx.size : Int)) = b + (tx.size : Int) := IntWalk.i64_in _ (by have := HS.out; omega)
              go_wp2_with (go_at_call 81; (with_reducible refine (HC.out _).mono ?_); rintro e w1 ⟨rfl, hb⟩; have HB := Aside0.mk hb; clear hb)
              go_loopg [6, 7, 8] (b.toNat + 1) (fun f t6 t7 t8 wr => wr = w1.alloc (.cells #[.int .i64 tk, .int .i64 tn, .string tx, .int .i64 0, .int .i64 0, .int .i64 0] 121) ∧ ∃ (ln fr : Int) (i : Nat), t6 = .int .i64 ln ∧ t7 = .int .i64 fr ∧ t8 = .int .i64 (i : Int) ∧ (i : Int) ≤ b ∧ b + 1 ≤ i + f ∧ Aside0 (Seen s b ln fr i))
              case atStart => exact ⟨rfl, ln, fr, i, rfl, rfl, rfl, HSE.out.le, by omega, HSE⟩
              case round =>
                clear HSE
                obtain ⟨rfl, ln, fr, i, rfl, rfl, rfl, hib, hif, HSE⟩ := hrel
                have hpl := posOf_le s i
                rw [HSE.out.pos] at hpl
                simp only at hpl
                have hs2 := HS.out
                by_cases hi : (i : Int) < b
                · have hx := bt_at s i (by omega)
                  have hps := posOf_succ s i (by omega)
                  rw [HSE.out.pos] at hps
                  have hlt2 : (i : Int) < (s.size : Int) := by omega
                  have wa : IntKind.i64.wrap (ln + 1) = ln + 1 := IntWalk.i64_in _ (by omega)
                  have wb : IntKind.i64.wrap ((i : Int) + 1) = (i : Int) + 1 := IntWalk.i64_in _ (by omega)
                  obtain ⟨q, hq⟩ : ∃ q, bt s i = q := ⟨_, rfl⟩
                  have hx : ∀ h : i < s.size, ((s[i]'h).toNat : Int) = q := fun h => (bt_at s i (by omega)).trans hq
                  rw [hq] at hps
                  obtain ⟨f, rfl⟩ : ∃ f, gk = f + 1 := ⟨gk - 1, by omega⟩
                  by_cases h10 : q = 10
                  · rw [if_pos h10] at hps
                    have h10b : (q == 10) = true := by rw [h10]; rfl
                    have HPS := Aside0.mk hps
                    clear hps hpl h10 hq hs2
                    go_wp2
                    go_roundg f
                    case measure => omega
                    case rel => exact ⟨rfl, ln + 1, (i : Int) + 1, i + 1, by go_num, by go_num, by go_num, by omega, by omega, ⟨by omega, by rw [HPS.out]; exact Prod.ext rfl (by simp only; omega)⟩⟩
                  · rw [if_neg h10] at hps
                    have h10b : (q == 10) = false := beq_eq_false_iff_ne.2 h10
                    have HPS := Aside0.mk hps
                    clear hps hpl h10 hq hs2
                    go_wp2
                    go_roundg f
                    case measure => omega
                    case rel => exact ⟨rfl, ln, fr, i + 1, by go_num, by go_num, by go_num, by omega, by omega, ⟨by omega, by rw [HPS.out]; exact Prod.ext rfl (by simp only; omega)⟩⟩
                · obtain rfl : b = (i : Int) := by omega
                  have w2 : IntKind.i64.wrap ((i : Int) - fr) = (i : Int) - fr := IntWalk.i64_in _ (by omega)
                  have hown := (HRA.out.step HB.out).own
                  rw [HLE.out] at hown
                  have HOW := Aside0.mk hown
                  have HBE := Aside0.mk (HRA.out.step HB.out).below
                  have hsz := HBE.out.size
                  have hT : (⟨tk, tn, tx, ta, tl, tc⟩ : Tok) = ⟨tk, tn, tx, i, ln, (i : Int) - fr⟩ := by
                    obtain ⟨e1, e2, e3⟩ := HNP.out
                    rw [HSE.out.pos] at e2 e3
                    subst e1 e2 e3
                    rfl
                  have HT := Aside0.mk hT
                  clear hown hT hpl
                  go_wp2_with (first | (at_builtin; refine wpList_append_own_at _ rfl _ _ 68 rfl w.heap.size 121 i0 _ 6 56 Tryz.underlying68 HI.out HZ0.out HZ1.out HZ2.out rfl (by decide) (.slice A' n c') n (flat acc) rfl ((HOW.out.alloc _).alloc _) ⟨w1.heap.size + 1, 0, none⟩ 1 1 [.int .i64 tk, .int .i64 tn, .string tx, .int .i64 (i : Int), .int .i64 ln, .int .i64 ((i : Int) - fr)] rfl rfl (by intro j u h; have := cells_new (w1.alloc (.cells #[.int .i64 tk, .int .i64 tn, .string tx, .int .i64 (i : Int), .int .i64 ln, .int .i64 ((i : Int) - fr)] 121)) #[.int .i64 tk, .int .i64 tn, .string tx, .int .i64 (i : Int), .int .i64 ln, .int .i64 ((i : Int) - fr)] 121 j u h; rwa [show (w1.alloc (.cells #[.int .i64 tk, .int .i64 tn, .string tx, .int .i64 (i : Int), .int .i64 ln, .int .i64 ((i : Int) - fr)] 121)).heap.size = w1.heap.size + 1 by simp] at this) (by simp [Value.oneCell']) (by unfold maxLen; omega) (by omega) (by simp; omega) ?_; intro v' w3 hown' hgrow _ hat; obtain ⟨g', cap', rfl⟩ := ownsRow_succ hown'; have HO := Aside0.mk hown'; have HG := Aside0.mk hgrow; have hbx := (hgrow.block w1.heap.size (by simp; omega) (fun e => by have := own_lt HOW.out _ e.symm; omega)).trans (heap_alloc (heap_new w1 _) _); have q2 : w3.cell? ⟨w1.heap.size, 2, none⟩ = some (.string tx) := cell_of hbx 2; clear hown' hgrow hat hbx) | (go_at_call 80; (with_reducible refine (HPA.out _ _ (by omega) (by omega)).mono ?_); rintro e w4 ⟨rfl, rfl⟩))
                  go_roundg fo
                  case measure => omega
                  case rel =>
                    obtain ⟨u1, u2, u3⟩ := HFU.out
                    have hg1 := lay_ge s (s.size + 1) ((i : Int) + (tx.size : Int))
                    exact ⟨some ⟨g', 0, none⟩, cap', n + 1, acc ++ [⟨tk, tn, tx, ta, tl, tc⟩], (i : Int) + (tx.size : Int), lay s ((i : Int) + (tx.size : Int)), ln, fr, i, fu, rfl, rfl, rfl, rfl, rfl, by unfold lay; omega, layL_le s _ _ (by omega) (by omega), hn4,
                      ⟨by simp [HLE.out], rfl, by omega, by omega, by omega, u2, HRR.out⟩, ⟨by unfold lay; omega, HSE.out.pos⟩,
                      ⟨by rw [HT.out, flat_snoc, List.length_append, HLE.out]; exact HO.out, ((HBE.out.alloc hsz _).alloc (by simp; omega) _).grown HG.out (by simp; omega) (fun k hk => own_base HOW.out k hk)⟩⟩
end Go.Proofs.YtfnhjdehlikbaaaGreatDoor.Lx
namespace Go.Proofs.YtfnhjdehlikbaaaGreatDoor.Lx
open Go.RowKit Go.Proofs.YtfnhjdehlikbaaaGreatDoorW.PrintWords
theorem adv_mono (l : List UInt8) : ∀ p : Int × Int, p.1 ≤ (adv l p).1 ∧ ((adv l p).1 = p.1 → (adv l p).2 = p.2 + l.length) := by
  induction l with
  | nil => intro p; simp [adv]
  | cons b l ih =>
    intro p
    simp only [adv]
    split
    · obtain ⟨h1, h2⟩ := ih (p.1 + 1, 0)
      simp only at h1
      exact ⟨by omega, fun h => by omega⟩
    · obtain ⟨h1, h2⟩ := ih (p.1, p.2 + 1)
      simp only at h1 h2
      refine ⟨h1, fun h => ?_⟩
      rw [h2 h, List.length_cons]
      omega
theorem posOf_mono (s : ByteArray) (a b : Int) (h0 : 0 ≤ a) (hab : a ≤ b) (hb : b ≤ s.size) : (posOf s a).1 ≤ (posOf s b).1 ∧ ((posOf s b).1 = (posOf s a).1 → (posOf s b).2 = (posOf s a).2 + (b - a)) := by
  obtain ⟨n, rfl⟩ : ∃ n : Nat, b = a + n := ⟨(b - a).toNat, by omega⟩
  have h := posOf_add s a n h0
  have hl := part_length s a n h0 hb
  obtain ⟨h1, h2⟩ := adv_mono (part s a n) (posOf s a)
  rw [h] at h1 h2
  refine ⟨h1, fun e => ?_⟩
  rw [h2 e, hl]
  omega
theorem takeWhile_take {α : Type} (p : α → Bool) : ∀ (l : List α) (j : Nat), ((l.take j).takeWhile p).length = min j (l.takeWhile p).length := by
  intro l
  induction l with
  | nil => intro j; simp
  | cons x l ih =>
    intro j
    cases j with
    | zero => simp
    | succ j =>
      rw [List.take_succ_cons, List.takeWhile_cons, List.takeWhile_cons]
      split
      · rw [List.length_cons, ih, List.length_cons]
        omega
      · simp
theorem run_part (p : Int → Bool) (s : ByteArray) (a n m : Nat) : run p (s.extract a (a + n)) m = min (n - m) (run p s (a + m)) := by
  unfold run
  rw [Lib.extract_data, List.drop_take, List.drop_drop, show a + n - a - m = n - m by omega, takeWhile_take]
theorem bt_part (s : ByteArray) (a n : Nat) (i : Int) (h0 : 0 ≤ i) (hi : i < n) : bt (s.extract a (a + n)) i = bt s (a + i) := by
  rw [bt_list _ _ h0, bt_list _ _ (by omega), Lib.extract_data, List.getElem?_take_of_lt (by omega), List.getElem?_drop, show a + i.toNat = ((a : Int) + i).toNat by omega]
theorem size_part (s : ByteArray) (a n : Nat) (h : a + n ≤ s.size) : (s.extract a (a + n)).size = n := by
  rw [extract_size _ _ _ (by omega) h]
  omega
theorem words_part (s : ByteArray) (a : Nat) (n : Nat) (b : Int) (han : a + n ≤ s.size) : ∀ (f f2 m : Nat) (bad many : Int), a + m ≤ s.size → s.size < a + m + f → n < m + f2 → wordsL s a f m bad many = ((n : Int), b) →
    wordsL (s.extract a (a + n)) 0 f2 m bad many = ((n : Int), b) := by
  intro f
  induction f with
  | zero => intro f2 m bad many h1 h2; omega
  | succ f ih =>
    intro f2 m bad many h1 h2 h3 h
    have hge := wordsL_ge s a (f + 1) m bad many
    rw [h] at hge
    simp only at hge
    cases f2 with
    | zero => omega
    | succ f2 =>
      have hX := size_part s a n han
      simp only [wordsL] at h ⊢
      have e0 : ((a : Int) + (m : Int)).toNat = a + m := by omega
      have e1 : ((0 : Int) + (m : Int)).toNat = m := by omega
      rw [e0] at h
      rw [e1, run_part]
      have hrl := run_le isLetter s (a + m) h1
      obtain ⟨k, hk⟩ : ∃ k, run isLetter s (a + m) = k := ⟨_, rfl⟩
      rw [hk] at h hrl ⊢
      by_cases hm : more s ((a : Int) + ((m : Int) + (k : Int))) = true
      · rw [if_pos hm] at h
        unfold more at hm
        simp only [Bool.and_eq_true, decide_eq_true_eq, beq_iff_eq] at hm
        obtain ⟨m1, m2, m3⟩ := hm
        -- the next word has a letter
        have hn2 : (m : Int) + k + 2 ≤ n := by
          cases f with
          | zero => omega
          | succ f =>
            simp only [wordsL] at h
            have e2 : ((a : Int) + ((m : Int) + (k : Int) + 1)).toNat = a + m + k + 1 := by omega
            rw [e2] at h
            have hp : 1 ≤ run isLetter s (a + m + k + 1) := by
              rw [run_cons _ _ _ (by omega), if_pos (by rw [show (((a + m + k + 1 : Nat)) : Int) = (a : Int) + ((m : Int) + (k : Int)) + 1 by omega]; exact m3)]
              omega
            generalize run isLetter s (a + m + k + 1) = k2 at h hp
            split at h
            · have hg2 := wordsL_ge s a f ((m : Int) + k + 1 + k2 + 1) (if 5 < many + 1 + 1 ∧ (if 10 < (k2 : Int) ∧ (if 5 < many + 1 ∧ (if 10 < (k : Int) ∧ bad < 0 then (m : Int) + 10 else bad) < 0 then (m : Int) + k else if 10 < (k : Int) ∧ bad < 0 then (m : Int) + 10 else bad) < 0 then (m : Int) + k + 1 + 10 else if 5 < many + 1 ∧ (if 10 < (k : Int) ∧ bad < 0 then (m : Int) + 10 else bad) < 0 then (m : Int) + k else if 10 < (k : Int) ∧ bad < 0 then (m : Int) + 10 else bad) < 0 then (m : Int) + k + 1 + k2 else if 10 < (k2 : Int) ∧ (if 5 < many + 1 ∧ (if 10 < (k : Int) ∧ bad < 0 then (m : Int) + 10 else bad) < 0 then (m : Int) + k else if 10 < (k : Int) ∧ bad < 0 then (m : Int) + 10 else bad) < 0 then (m : Int) + k + 1 + 10 else if 5 < many + 1 ∧ (if 10 < (k : Int) ∧ bad < 0 then (m : Int) + 10 else bad) < 0 then (m : Int) + k else if 10 < (k : Int) ∧ bad < 0 then (m : Int) + 10 else bad) (many + 1 + 1)
              rw [h] at hg2
              simp only at hg2
              omega
            · have := congrArg Prod.fst h
              simp only at this
              omega
        have hk2 : min (n - m) k = k := by omega
        rw [hk2]
        have hmx : more (s.extract a (a + n)) ((0 : Int) + ((m : Int) + (k : Int))) = true := by
          unfold more
          rw [hX, bt_part s a n _ (by omega) (by omega), bt_part s a n _ (by omega) (by omega)]
          simp only [Bool.and_eq_true, decide_eq_true_eq, beq_iff_eq]
          refine ⟨by omega, ?_, ?_⟩
          · rw [show (a : Int) + (0 + ((m : Int) + (k : Int))) = (a : Int) + ((m : Int) + (k : Int)) by omega]; exact m2
          · rw [show (a : Int) + (0 + ((m : Int) + (k : Int)) + 1) = (a : Int) + ((m : Int) + (k : Int)) + 1 by omega]; exact m3
        rw [if_pos hmx]
        have e3 : (m : Int) + (k : Int) + 1 = ((m + k + 1 : Nat) : Int) := by omega
        rw [e3] at h ⊢
        exact ih f2 (m + k + 1) _ _ (by omega) (by omega) (by omega) h
      · rw [if_neg hm] at h
        have h4 := congrArg Prod.fst h
        have h5 := congrArg Prod.snd h
        simp only at h4 h5
        have hk2 : min (n - m) k = k := by omega
        rw [hk2]
        have hmx : more (s.extract a (a + n)) ((0 : Int) + ((m : Int) + (k : Int))) = false := by
          unfold more
          rw [hX, decide_eq_false (by omega)]
          rfl
        rw [if_neg (by rw [hmx]; simp)]
        exact Prod.ext h4 h5
theorem pathF_part (s : ByteArray) (a : Int) (h0 : 0 ≤ a) (ha : a < s.size) (hl : isLetter (bt s a) = true) (hb : (words s a).2 < 0) : pathF (s.extract a.toNat (a + (words s a).1).toNat) = true := by
  obtain ⟨b1, b2, b3, b4⟩ := words_le s a h0 (by omega)
  have hp := words_pos s a h0 ha hl
  obtain ⟨x, hx⟩ : ∃ x : Nat, a = (x : Int) := ⟨a.toNat, by omega⟩
  subst hx
  obtain ⟨W, hW⟩ : ∃ W, words s (x : Int) = W := ⟨_, rfl⟩
  rw [hW] at b1 b2 b3 b4 hp hb ⊢
  obtain ⟨n0, bad⟩ := W
  obtain ⟨n, rfl⟩ : ∃ n : Nat, n0 = (n : Int) := ⟨n0.toNat, by simp only at b1; omega⟩
  simp only at b1 b2 hp hb ⊢
  have e : ((x : Int) + (n : Int)).toNat = x + n := by omega
  rw [e, Int.toNat_natCast]
  have hX := size_part s x n (by omega)
  have hw : words (s.extract x (x + n)) 0 = ((n : Int), bad) := by
    unfold words
    rw [hX]
    exact words_part s x n bad (by omega) (s.size + 1) (n + 1) 0 (-1) 1 (by omega) (by omega) (by omega) hW
  unfold pathF
  rw [hw, hX]
  simp only
  have hne : decide ((s.extract x (x + n)).toList = []) = false := decide_eq_false (fun h => by have := toList_nil.1 h; omega)
  rw [hne, bt_part s x n 0 (by omega) (by omega), Int.add_zero, hl, decide_eq_true hb]
  simp
end Go.Proofs.YtfnhjdehlikbaaaGreatDoor.Lx
namespace Go.Proofs.YtfnhjdehlikbaaaGreatDoor.Lx
open Go.RowKit Go.Proofs.YtfnhjdehlikbaaaGreatDoorW.PrintWords
theorem decV_pow : ∀ (l : List UInt8) (v : Nat), v * 10 ^ l.length ≤ decV l v := by
  intro l
  induction l with
  | nil => intro v; simp [decV]
  | cons b l ih =>
    intro v
    have := ih (10 * v + (b.toNat - 48))
    show v * 10 ^ (l.length + 1) ≤ decV l (10 * v + (b.toNat - 48))
    refine Nat.le_trans ?_ this
    rw [Nat.pow_succ, show v * (10 ^ l.length * 10) = (10 * v) * 10 ^ l.length by rw [Nat.mul_comm (10 ^ l.length) 10, ← Nat.mul_assoc, Nat.mul_comm v 10]]
    exact Nat.mul_le_mul_right _ (by omega)
theorem number_size {s : ByteArray} (hd : run isDigit s 0 = s.size) (hz : s.size ≤ 1 ∨ bt s 0 ≠ 48) (hn : number s ≤ 1073741824) : s.size ≤ 20 := by
  rcases hz with hz | hz
  · omega
  · have hg := digs_of_run hd
    have he := numL_decV s.data.toList 0 hg hn
    have hnum : number s = (decV s.data.toList 0 : Nat) := he
    have hl := len_data s
    cases hc : s.data.toList with
    | nil => rw [hc] at hl; simp at hl; omega
    | cons b l =>
      rw [hc] at hnum hl hg
      have hb := hg b (by simp)
      have hb48 : b.toNat ≠ 48 := by
        intro h48
        apply hz
        rw [bt_list s 0 (by omega), hc]
        show (b.toNat : Int) = 48
        omega
      have hp := decV_pow l (10 * 0 + (b.toNat - 48))
      have e : decV (b :: l) 0 = decV l (10 * 0 + (b.toNat - 48)) := rfl
      rw [e] at hnum
      have h1 : 10 ^ l.length ≤ decV l (10 * 0 + (b.toNat - 48)) := by
        refine Nat.le_trans ?_ hp
        exact Nat.le_mul_of_pos_left _ (by omega)
      have h2 : 10 ^ l.length ≤ 1073741824 := by omega
      have h3 : l.length ≤ 9 := by
        rcases Nat.lt_or_ge l.length 10 with h | h
        · omega
        · have := Nat.pow_le_pow_right (n := 10) (by omega) h
          omega
      simp only [List.length_cons] at hl
      omega
theorem next_wf (s : ByteArray) (a : Int) (h0 : 0 ≤ a) (ha : a < s.size) (hk : kindOf (bt s a) ≠ 0) (hb : (nextOf s a (kindOf (bt s a))).2 < 0) : WfT (nextOf s a (kindOf (bt s a))).1 := by
  rcases kindOf_cases (bt s a) with e | e | e | e
  · exact absurd e hk
  · rw [e] at hb ⊢
    have hl := kindOf_letter e
    simp only [nextOf, nextWord, if_true] at hb ⊢
    by_cases hkw : isKw (s.extract a.toNat (a + (words s a).1).toNat) = true
    · rw [if_pos hkw]
      exact .inr (.inr (.inr ⟨rfl, rfl, hkw⟩))
    · rw [if_neg hkw]
      exact .inl ⟨rfl, rfl, pathF_part s a h0 ha hl hb, by simpa using hkw⟩
  · rw [e] at hb ⊢
    have hdg := kindOf_digit e
    have hr := run_le isDigit s a.toNat (by omega)
    have hr1 := run_pos isDigit s a h0 ha hdg
    simp only [nextOf, nextNum, if_true, show ¬ (2 : Int) = 1 by omega, if_false] at hb ⊢
    obtain ⟨k, hkk⟩ : ∃ k, run isDigit s a.toNat = k := ⟨_, rfl⟩
    rw [hkk] at hb hr hr1 ⊢
    have e2 : (a + (k : Int)).toNat = a.toNat + k := by omega
    rw [e2] at hb ⊢
    have hX := size_part s a.toNat k (by omega)
    have hrun : run isDigit (s.extract a.toNat (a.toNat + k)) 0 = (s.extract a.toNat (a.toNat + k)).size := by
      rw [run_part, hX, Nat.sub_zero, Nat.add_zero, hkk]
      omega
    have hb0 : bt (s.extract a.toNat (a.toNat + k)) 0 = bt s a := by
      rw [bt_part s a.toNat k 0 (by omega) (by omega)]
      congr 1
      omega
    split at hb
    · omega
    · rename_i hnb
      split at hb
      · omega
      · rename_i hz
        have hz2 : (s.extract a.toNat (a.toNat + k)).size ≤ 1 ∨ bt (s.extract a.toNat (a.toNat + k)) 0 ≠ 48 := by
          rw [hX, hb0]
          by_cases h1 : k ≤ 1
          · exact .inl h1
          · exact .inr (fun h => hz ⟨by omega, h⟩)
        have hsz := number_size hrun hz2 (by omega)
        have hi := itoa_number hrun (by rw [hX]; omega) (by rcases hz2 with h | h; exact .inl (by rw [hX] at h ⊢; omega); exact .inr h) (by omega)
        have hnn := number_le _ (allDigits_of_run hrun)
        exact .inr (.inl ⟨rfl, hsz, hrun, by rw [hX]; omega, rfl, by simp only; omega, by simp only; omega, hi⟩)
  · have hk3 := kind_eq s a
    rw [e] at hb ⊢ hk3
    have hsg : isSign 18 (bt s a) = true := by
      split at hk3
      · omega
      · split at hk3
        · omega
        · split at hk3
          · assumption
          · omega
    obtain ⟨x, hx⟩ := sign_some s a h0 ha hsg
    have hlo : longest (s.extract a.toNat s.size) = x := by unfold longest; rw [hx]; rfl
    have hp := (prefix_iff s x a h0 (by omega)).1 (List.find?_some hx)
    have hxe : s.extract a.toNat (a + (x.size : Int)).toNat = x := by
      have h2 := hp.2
      rw [ByteArray.toList_eq, ByteArray.toList_eq] at h2
      exact ByteArray.ext (Array.toList_inj.1 h2)
    refine .inr (.inr (.inl ⟨?_, ?_, ?_⟩))
    · rfl
    · rfl
    · simp only [nextOf, nextSign, show ¬ (3 : Int) = 1 by omega, show ¬ (3 : Int) = 2 by omega, if_false, hlo, hxe]
      unfold among
      rw [List.any_eq_true]
      exact ⟨x, List.mem_of_find?_eq_some hx, by simp⟩
structure RawSo (s : ByteArray) (a : Int) (acc : List Tok) : Prop where
  good : GoodL acc
  last : ∀ b, acc.getLast? = some b → 0 ≤ b.at_ ∧ b.at_ + b.text.size ≤ a ∧ b.line = (posOf s b.at_).1 ∧ b.col = (posOf s b.at_).2
theorem goodL_snoc {acc : List Tok} {t : Tok} (h : GoodL acc) (ht : GoodT (acc.getLast?.getD tokZ) t) : GoodL (acc ++ [t]) := by
  intro i x hx
  rcases Nat.lt_trichotomy i acc.length with hi | hi | hi
  · rw [List.getElem?_append_left hi] at hx
    have := h i x hx
    split
    · rename_i h0; rw [if_pos h0] at this; exact this
    · rename_i h0
      rw [if_neg h0] at this
      rw [List.getElem?_append_left (by omega)]
      exact this
  · subst hi
    rw [List.getElem?_append_right (Nat.le_refl _)] at hx
    simp at hx
    subst hx
    split
    · rename_i h0
      have : acc = [] := List.eq_nil_of_length_eq_zero h0
      rw [this] at ht
      exact ht
    · rename_i h0
      rw [List.getElem?_append_left (by omega), ← List.getLast?_eq_getElem?]
      exact ht
  · rw [List.getElem?_append_right (by omega)] at hx
    rw [List.getElem?_eq_none (by simp; omega)] at hx
    cases hx
theorem raw_good (s : ByteArray) (hs : s.size ≤ 65536) : ∀ (f : Nat) (a : Int) (acc : List Tok), 0 ≤ a → a ≤ s.size → RawSo s a acc → GoodL (rawL s f a acc).1 := by
  have hnil : GoodL [] := fun i t h => by simp at h
  intro f
  induction f with
  | zero => intro a acc _ _ h; exact h.good
  | succ f ih =>
    intro a acc h0 h1 h
    have hge : a ≤ lay s a := lay_ge s _ a
    have hle : lay s a ≤ s.size := layL_le s _ a h0 h1
    simp only [rawL]
    split
    · exact h.good
    · rename_i hend
      generalize lay s a = b at *
      split
      · exact hnil
      · rename_i hk
        split
        · exact hnil
        · split
          · exact hnil
          · rename_i hb
            have hbb : b < s.size := by omega
            have hwf := next_wf s b (by omega) hbb hk (by omega)
            have hnp := next_pos s b (by omega) hbb hk (by omega)
            obtain ⟨nf1, nf2, nf3⟩ := next_fits s b (kindOf (bt s b)) (by omega) hbb
            obtain ⟨np1, np2, np3⟩ := next_place s b (kindOf (bt s b))
            generalize (nextOf s b (kindOf (bt s b))).1 = t at *
            obtain ⟨p1, p2, p3, p4⟩ := posOf_le s b
            refine ih (b + t.text.size) (acc ++ [t]) (by omega) (by omega) ⟨goodL_snoc h.good ?_, ?_⟩
            · refine ⟨hwf, by omega, by omega, by omega, by omega, by omega, by omega, by omega, ?_, ?_, ?_⟩
              · cases hl : acc.getLast? with
                | none => simp only [Option.getD_none, tokZ]; omega
                | some c =>
                  obtain ⟨l1, l2, l3, l4⟩ := h.last c hl
                  simp only [Option.getD_some]
                  have := (posOf_mono s c.at_ b l1 (by omega) hle).1
                  omega
              · cases hl : acc.getLast? with
                | none =>
                  simp only [Option.getD_none, tokZ]
                  intro _
                  show (0 : Int) + ((0 : Nat) : Int) ≤ t.col
                  omega
                | some c =>
                  obtain ⟨l1, l2, l3, l4⟩ := h.last c hl
                  simp only [Option.getD_some]
                  intro he
                  have := (posOf_mono s c.at_ b l1 (by omega) hle).2 (by omega)
                  omega
              · cases hl : acc.getLast? with
                | none =>
                  simp only [Option.getD_none, tokZ]
                  show (0 : Int) + ((0 : Nat) : Int) ≤ t.at_
                  omega
                | some c =>
                  obtain ⟨l1, l2, l3, l4⟩ := h.last c hl
                  simp only [Option.getD_some]
                  omega
            · intro c hc
              simp at hc
              subst hc
              rw [np1]
              exact ⟨by omega, Int.le_refl _, np2, np3⟩
theorem rawL_len4 (s : ByteArray) : ∀ (f : Nat) (a : Int) (acc : List Tok), acc.length ≤ 4000 → (rawL s f a acc).1.length ≤ 4000 := by
  intro f
  induction f with
  | zero => intro a acc h; exact h
  | succ f ih =>
    intro a acc h
    simp only [rawL]
    split
    · exact h
    · split
      · simp
      · split
        · simp
        · split
          · simp
          · refine ih _ _ ?_
            simp
            omega
theorem rawOk_all (s : ByteArray) : RawOk s := by
  refine ⟨?_, ?_⟩
  · unfold rawF
    split
    · exact fun i t h => by simp at h
    · exact raw_good s (by omega) _ 0 [] (by omega) (by omega) ⟨fun i t h => by simp at h, fun b h => by simp at h⟩
  · unfold rawF
    split
    · simp
    · exact rawL_len4 s _ _ _ (by simp)
end Go.Proofs.YtfnhjdehlikbaaaGreatDoor.Lx
