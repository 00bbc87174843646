import Derived.Test.YtfnhjdehlikbaaaGreatDoorProg
import Derived.Test.YtfnhjdehlikbaaaGreatDoorWWords
import Derived.WalkKit
import Derived.Below
import Derived.Deep.Draws
import Derived.OwnWalk
import Derived.Tactics
import Derived.KernelRfl
import Derived.Deep.LoopGhost
import Derived.Deep.QuietTactic
import Derived.BigQuiet
import Derived.Lib.Hide
import Derived.RangeFuncRecord
import Derived.Shelf.Abstract
import Derived.Maps.OwnOps
import Derived.Outline
import Derived.Deep.DeepCutAuto
import Derived.Deep.CutBlock
import Derived.WalkSmall
import Derived.Lib.OthersKept
import Derived.WalkSpells
import Derived.Lib.Strings
import Derived.Laws.Rows
import Derived.BigRegion
import Derived.Deep.RegionHeld3
import Derived.Lib.ConvBytes
import Derived.Lib.IndexBytes
import Derived.IntWalk
set_option linter.unusedVariables false
set_option linter.unusedSimpArgs false
namespace Go.Proofs.YtfnhjdehlikbaaaGreatDoor.Lx
open Go.RowKit Go.Proofs.YtfnhjdehlikbaaaGreatDoorW.PrintWords
theorem heap_new (w : World) (o : Obj) : (w.alloc o).heap[w.heap.size]? = some o := World.alloc_heap_new w o
theorem heap_new' (w : World) (o : Obj) (n : Nat) (h : n = w.heap.size) : (w.alloc o).heap[n]? = some o := by rw [h]; exact heap_new w o
theorem heap_old {w : World} (o : Obj) {k : Nat} (h : k < w.heap.size) : (w.alloc o).heap[k]? = w.heap[k]? := Below.heap_alloc w o k h
theorem heap_lt {w : World} {k : Nat} {o : Obj} (h : w.heap[k]? = some o) : k < w.heap.size := (Array.getElem?_eq_some_iff.1 h).1
theorem heap_alloc {w : World} {k : Nat} {o : Obj} (h : w.heap[k]? = some o) (o' : Obj) : (w.alloc o').heap[k]? = some o := (heap_old o' (heap_lt h)).trans h
theorem heap_put {w : World} {k : Nat} {o : Obj} (h : w.heap[k]? = some o) (o' : Obj) : (w.putObj k o').heap[k]? = some o' := World.putObj_heap_same (heap_lt h)
theorem heap_put_other {w : World} {k r : Nat} (h : k ≠ r) (o' : Obj) : (w.putObj r o').heap[k]? = w.heap[k]? := World.putObj_heap_other h
theorem cell_of {w : World} {b : Nat} {cs : Array Value} {t : TypeId} {f : Nat × Nat} (h : w.heap[b]? = some (.cells cs t f)) (i : Nat) : w.cell? ⟨b, i, none⟩ = cs[i]? := by
  simp [World.cell?, h]
theorem free_of {w : World} {b : Nat} {cs : Array Value} {t : TypeId} (h : w.heap[b]? = some (.cells cs t (0, 0))) (i : Nat) : w.frozen? ⟨b, i, none⟩ = false := by
  simp [World.frozen?, h]
theorem heap_set {w : World} {b : Nat} {cs : Array Value} {t : TypeId} {f : Nat × Nat} (h : w.heap[b]? = some (.cells cs t f)) (i : Nat) (v : Value) : (w.setCell ⟨b, i, none⟩ v).heap[b]? = some (.cells (cs.setIfInBounds i v) t f) := by
  obtain ⟨hlt, hk⟩ := Array.getElem?_eq_some_iff.1 h
  show (w.heap.modify b _)[b]? = _
  rw [Array.getElem?_eq_getElem (by rw [Array.size_modify]; exact hlt), Array.getElem_modify_self, hk]
  rfl
theorem heap_set_other {w : World} {k : Nat} {a : Addr} (h : k ≠ a.block) (v : Value) : (w.setCell a v).heap[k]? = w.heap[k]? := Below.heap_setCell w a v k h
theorem below_put {B : Nat} {a w : World} (h : Below B a w) {k : Nat} (hk : B ≤ k) (o : Obj) : Below B a (w.putObj k o) :=
  h.trans ⟨rfl, rfl, rfl, by simp, fun i hi => World.putObj_heap_other (by omega)⟩
def isLetter (c : Int) : Bool := decide (97 ≤ c) && decide (c ≤ 122)
def isDigit (c : Int) : Bool := decide (48 ≤ c) && decide (c ≤ 57)
theorem letter_any (c : Int) (w : World) :
    Calls Tryz.prog 85 #[.int .u8 c] w fun e w' => e = .returned (.bool (isLetter c)) ∧ w = w' := by
  by_cases h : 97 ≤ c
  · have h' : decide (97 ≤ c) = true := decide_eq_true h
    have hfin : isLetter c = decide (c ≤ 122) := by simp [isLetter, h]
    have H := Lib.hid hfin; clear hfin
    go_enter Tryz.func85, Tryz.ntmps85
    go_wp2
    go_ret
    exact ⟨by rw [H.out]; rfl, rfl⟩
  · have h' : decide (97 ≤ c) = false := decide_eq_false h
    have hfin : isLetter c = false := by simp [isLetter, h]
    have H := Lib.hid hfin; clear hfin
    go_enter Tryz.func85, Tryz.ntmps85
    go_wp2
    go_ret
    exact ⟨by rw [H.out]; rfl, rfl⟩
theorem digit_any (c : Int) (w : World) :
    Calls Tryz.prog 131 #[.int .u8 c] w fun e w' => e = .returned (.bool (isDigit c)) ∧ w = w' := by
  by_cases h : 48 ≤ c
  · have h' : decide (48 ≤ c) = true := decide_eq_true h
    have hfin : isDigit c = decide (c ≤ 57) := by simp [isDigit, h]
    have H := Lib.hid hfin; clear hfin
    go_enter Tryz.func131, Tryz.ntmps131
    go_wp2
    go_ret
    exact ⟨by rw [H.out]; rfl, rfl⟩
  · have h' : decide (48 ≤ c) = false := decide_eq_false h
    have hfin : isDigit c = false := by simp [isDigit, h]
    have H := Lib.hid hfin; clear hfin
    go_enter Tryz.func131, Tryz.ntmps131
    go_wp2
    go_ret
    exact ⟨by rw [H.out]; rfl, rfl⟩
theorem notEol_any (c : Int) (w : World) :
    Calls Tryz.prog 133 #[.int .u8 c] w fun e w' => e = .returned (.bool (c != 10)) ∧ w = w' := by
  go_enter Tryz.func133, Tryz.ntmps133
  go_wp2
  go_ret
  exact ⟨rfl, rfl⟩
def run (p : Int → Bool) (s : ByteArray) (at_ : Nat) : Nat := ((s.data.toList.drop at_).takeWhile (fun b => p (b.toNat : Int))).length
theorem run_le (p : Int → Bool) (s : ByteArray) (at_ : Nat) (h : at_ ≤ s.size) : at_ + run p s at_ ≤ s.size := by
  have h1 := (List.takeWhile_sublist (fun b : UInt8 => p (b.toNat : Int)) (l := s.data.toList.drop at_)).length_le
  have h2 : s.data.toList.length = s.size := by simp
  unfold run
  rw [List.length_drop] at h1
  omega
theorem takeWhile_get {α : Type} (p : α → Bool) : ∀ (l : List α) (k : Nat) (h : k < l.length), k ≤ (l.takeWhile p).length → ((p l[k] = true) ↔ k < (l.takeWhile p).length) := by
  intro l
  induction l with
  | nil => intro k h; simp at h
  | cons x l ih =>
    intro k h hk
    cases hp : p x with
    | false => simp [hp] at hk; subst hk; simp [hp]
    | true =>
      cases k with
      | zero => simp [hp]
      | succ k =>
        simp only [List.takeWhile_cons, hp, if_true, List.length_cons] at hk ⊢
        rw [List.getElem_cons_succ, ih k (by simpa using h) (by omega)]
        omega
theorem run_step (p : Int → Bool) (s : ByteArray) (at_ k : Nat) (h : at_ + k < s.size) (hk : k ≤ run p s at_) : p ((s[at_ + k]'h).toNat : Int) = true ↔ k < run p s at_ := by
  have h2 : s.data.toList.length = s.size := by simp
  have := takeWhile_get (fun b : UInt8 => p (b.toNat : Int)) (s.data.toList.drop at_) k (by rw [List.length_drop]; omega) hk
  rw [List.getElem_drop] at this
  exact this
set_option maxRecDepth 100000 in
set_option maxHeartbeats 400000 in
theorem run_any (fn : Nat) (p : Int → Bool) (he : ∀ args w, (callFunc fn args).run Tryz.prog w = .ok (.enter fn args) w)
    (hp : ∀ c w, Calls Tryz.prog fn #[.int .u8 c] w fun e w' => e = .returned (.bool (p c)) ∧ w = w')
    (s : ByteArray) (a : Int) (w : World) (hs : s.size ≤ 140737488351232) (h0 : 0 ≤ a) (ha : a ≤ s.size) :
    Calls Tryz.prog 120 #[.string s, .int .i64 a, .func (.func fn) #[] #[]] w fun e w' => e = .returned (.int .i64 (run p s a.toNat)) ∧ w = w' := by
  have HL := Lib.hid (run_le p s a.toNat (by omega))
  have HP := Lib.hid hp; clear hp
  go_enter Tryz.func120, Tryz.ntmps120
  go_wp2
  go_loop [7] (fun n => ∃ k : Int, 0 ≤ k ∧ k ≤ run p s a.toNat ∧ n = .int .i64 k) (fun n => s.size - (intOf n).toNat)
  case atStart => exact ⟨0, by omega, by omega, rfl⟩
  case round =>
    obtain ⟨k, hk0, hk, rfl⟩ := hrel
    by_cases hlt : a + k < s.size
    · have HST := Lib.hid (run_step p s a.toNat k.toNat (by omega) (by omega))
      by_cases hr : k < run p s a.toNat
      · have hpt : p ((s[(a + k).toNat]'(by omega)).toNat : Int) = true := by
          have := (HST.out).2 (by omega)
          simpa [show (a + k).toNat = a.toNat + k.toNat by omega] using this
        have HPT := Lib.hid hpt; clear hpt
        go_wp2_with (refine (HP.out _ _).mono ?_; rintro e w' ⟨rfl, rfl⟩; rw [HPT.out])
        go_round
        case rel => exact ⟨k + 1, by omega, by omega, by go_num⟩
        case measure => simp [intOf]; omega
      · have hpt : p ((s[(a + k).toNat]'(by omega)).toNat : Int) = false := by
          have h1 : ¬ p ((s[a.toNat + k.toNat]'(by omega)).toNat : Int) = true := fun h => hr (by have := (HST.out).1 h; omega)
          simpa [show (a + k).toNat = a.toNat + k.toNat by omega] using h1
        have HPT := Lib.hid hpt; clear hpt
        have HK := Lib.hid (show k = run p s a.toNat by omega)
        go_wp2_with (refine (HP.out _ _).mono ?_; rintro e w' ⟨rfl, rfl⟩; rw [HPT.out])
        go_ret
        exact ⟨by rw [← HK.out]; rfl, rfl⟩
    · have HK := Lib.hid (show k = run p s a.toNat by have := HL.out; omega)
      have hlt' : decide (a + k < (s.size : Int)) = false := decide_eq_false hlt
      have hb : a + k ≤ s.size := by have := HL.out; omega
      go_wp2
      go_ret
      exact ⟨by rw [← HK.out]; rfl, rfl⟩
theorem run_letter (s : ByteArray) (a : Int) (w : World) (hs : s.size ≤ 140737488351232) (h0 : 0 ≤ a) (ha : a ≤ s.size) :
    Calls Tryz.prog 120 #[.string s, .int .i64 a, .func (.func 85) #[] #[]] w fun e w' => e = .returned (.int .i64 (run isLetter s a.toNat)) ∧ w = w' :=
  run_any 85 isLetter (enters_of Tryz.func85 (by kernel_rfl) rfl) letter_any s a w hs h0 ha
theorem run_digit (s : ByteArray) (a : Int) (w : World) (hs : s.size ≤ 140737488351232) (h0 : 0 ≤ a) (ha : a ≤ s.size) :
    Calls Tryz.prog 120 #[.string s, .int .i64 a, .func (.func 131) #[] #[]] w fun e w' => e = .returned (.int .i64 (run isDigit s a.toNat)) ∧ w = w' :=
  run_any 131 isDigit (enters_of Tryz.func131 (by kernel_rfl) rfl) digit_any s a w hs h0 ha
theorem run_line (s : ByteArray) (a : Int) (w : World) (hs : s.size ≤ 140737488351232) (h0 : 0 ≤ a) (ha : a ≤ s.size) :
    Calls Tryz.prog 120 #[.string s, .int .i64 a, .func (.func 133) #[] #[]] w fun e w' => e = .returned (.int .i64 (run (fun c => c != 10) s a.toNat)) ∧ w = w' :=
  run_any 133 (fun c => c != 10) (enters_of Tryz.func133 (by kernel_rfl) rfl) notEol_any s a w hs h0 ha
end Go.Proofs.YtfnhjdehlikbaaaGreatDoor.Lx
namespace Go.Proofs.YtfnhjdehlikbaaaGreatDoor.Lx
open Go.RowKit Go.Proofs.YtfnhjdehlikbaaaGreatDoorW.PrintWords Go.Instr
def kentries : List ByteArray → Nat → List MapEntry
  | [], _ => []
  | k :: ks, i => { key := .string k, val := .bool true, born := i } :: kentries ks (i + 1)
def kset (ks : List ByteArray) : Obj := .map (kentries ks 0).toArray ks.length
theorem kentries_snoc (ks : List ByteArray) (k : ByteArray) : ∀ i, kentries (ks ++ [k]) i = kentries ks i ++ [{ key := .string k, val := .bool true, born := i + ks.length }] := by
  induction ks with
  | nil => intro i; simp [kentries]
  | cons x ks ih =>
    intro i
    have e : i + 1 + ks.length = i + (x :: ks).length := by simp; omega
    simp only [List.cons_append, kentries, ih, e]
theorem findNow_set (ks : List ByteArray) (k : ByteArray) : ∀ i j, ∃ r, findNow .string (.string k) (kentries ks i) j = some r ∧ (r = none ↔ ks.any (k == ·) = false) ∧ (∀ p, r = some p → p.2 = .bool true) := by
  induction ks with
  | nil => intro i j; exact ⟨none, rfl, by simp, fun p h => by cases h⟩
  | cons x ks ih =>
    intro i j
    cases hx : (k == x) with
    | true => exact ⟨some (j, .bool true), by simp [kentries, findNow, sameNow, hx], by simp [hx], fun p h => by cases h; rfl⟩
    | false =>
      obtain ⟨r, h1, h2, h3⟩ := ih (i + 1) (j + 1)
      exact ⟨r, by simp [kentries, findNow, sameNow, hx, h1], by simp [hx, h2], h3⟩
theorem run_set_lookup {w : World} {b : Nat} {ks : List ByteArray} (k : ByteArray) (h : w.heap[b]? = some (kset ks)) :
    (Instr.lookup 124 (.map (some b)) (.string k) false).run Tryz.prog w = .ok (.bool (ks.any (k == ·))) w := by
  obtain ⟨r, h1, h2, h3⟩ := findNow_set ks k 0 0
  have hg := Go.MapKept.run_getObj_map (P := Tryz.prog) (w := w) (r := b) (es := (kentries ks 0).toArray) (clock := ks.length) h
  have hc : (Instr.checkKey (kentries ks 0).toArray.isEmpty 10000 9 (.string k)).run Tryz.prog w = .ok () w := Go.MapKept.run_checkKey (P := Tryz.prog) (w := w) (kt := 9) (d := .string) (k := .string k) Tryz.underlying9 (by simp [Go.MapKept.IsKey]) (kentries ks 0).toArray.isEmpty 9999
  have hf := Go.MapKept.run_findKey (P := Tryz.prog) (w := w) (kt := 9) (d := .string) (k := .string k) (l := kentries ks 0) Tryz.underlying9 h1
  have hz : (zeroValue 4).run Tryz.prog w = .ok (.bool false) w := by kernel_rfl
  unfold Instr.lookup
  simp only [Sem.run_bind, Sem.run_pure, run_underlying Tryz.underlying124, Result.andThen, hg, hc, hf]
  cases r with
  | none =>
    rw [h2.1 rfl]
    simp only [Sem.run_bind, Sem.run_pure, Result.andThen, hz]
    rfl
  | some p =>
    have hp := h3 p rfl
    have hn : ks.any (k == ·) = true := by
      cases hh : ks.any (k == ·) with
      | true => rfl
      | false => have := h2.2 hh; cases this
    obtain ⟨i, v⟩ := p
    simp only at hp
    subst hp
    rw [hn]
    rfl
theorem run_set_update {w : World} {b : Nat} {ks : List ByteArray} (k : ByteArray) (h : w.heap[b]? = some (kset ks)) (hk : ks.any (k == ·) = false) :
    (Instr.mapUpdate 124 (.map (some b)) (.string k) (.bool true)).run Tryz.prog w = .ok () (w.putObj b (kset (ks ++ [k]))) := by
  obtain ⟨r, h1, h2, h3⟩ := findNow_set ks k 0 0
  have hr := h2.2 hk
  subst hr
  have hg := Go.MapKept.run_getObj_map (P := Tryz.prog) (w := w) (r := b) (es := (kentries ks 0).toArray) (clock := ks.length) h
  have hc : (Instr.checkKey false 10000 9 (.string k)).run Tryz.prog w = .ok () w := Go.MapKept.run_checkKey (P := Tryz.prog) (w := w) (kt := 9) (d := .string) (k := .string k) Tryz.underlying9 (by simp [Go.MapKept.IsKey]) false 9999
  have hf := Go.MapKept.run_findKey (P := Tryz.prog) (w := w) (kt := 9) (d := .string) (k := .string k) (l := kentries ks 0) Tryz.underlying9 h1
  unfold Instr.mapUpdate
  simp only [Sem.run_bind, Sem.run_pure, run_underlying Tryz.underlying124, Result.andThen, hg, hc, hf]
  rw [Go.MapKept.run_setObj_map _ h]
  simp [kset, World.putObj, kentries_snoc]
def kws : List ByteArray := [⟨#[97, 98, 105, 108, 105, 116, 121]⟩, ⟨#[100, 111]⟩, ⟨#[104, 97, 110, 100, 108, 101]⟩, ⟨#[105, 110]⟩, ⟨#[108, 101, 116]⟩, ⟨#[109, 97, 116, 99, 104]⟩, ⟨#[110, 97, 116]⟩, ⟨#[114, 101, 116, 117, 114, 110]⟩, ⟨#[116, 121, 112, 101]⟩, ⟨#[117, 110, 105, 113, 117, 101]⟩, ⟨#[119, 105, 116, 104]⟩]
theorem kws_new : ∀ i, i < 11 → (kws.take i).any (kws[i]?.getD ⟨#[]⟩ == ·) = false := by decide +kernel
theorem kws_take : ∀ i, i < 11 → kws.take (i + 1) = kws.take i ++ [kws[i]?.getD ⟨#[]⟩] := by decide +kernel
set_option maxRecDepth 100000 in
set_option maxHeartbeats 400000 in
theorem keywords_any (w : World) :
    Calls Tryz.prog 82 #[] w fun e w' => e = .returned (.map (some w.heap.size)) ∧ w'.heap[w.heap.size]? = some (kset kws) ∧ Below w.heap.size w w' := by
  have hmm := @run_makeMap Tryz.prog
  go_enter Tryz.func82, Tryz.ntmps82
  go_wp2
  go_loopw [7] (fun i wr => ∃ k : Nat, k ≤ 11 ∧ i = .int .i64 k ∧ Aside0 (wr.heap[w.heap.size]? = some (kset (kws.take k)) ∧ wr.heap[w.heap.size + 1]? = some (.cells (kws.map Value.string).toArray 9) ∧ Below w.heap.size w wr)) (fun i _ => 11 - (intOf i).toNat)
  case atStart =>
    refine ⟨0, by omega, rfl, ⟨?_, ?_, ?_⟩⟩
    · exact heap_alloc (heap_new w _) _
    · exact heap_new' (w.alloc _) _ _ (by simp)
    · exact ((Below.refl _ _).alloc (Nat.le_refl _) _).alloc (by simp) _
  case round =>
    obtain ⟨k, hk, rfl, ⟨hm, hc, hb⟩⟩ := hrel
    by_cases hlt : k < 11
    · have hck : wr.cell? ⟨w.heap.size + 1, k, none⟩ = some (.string (kws[k]?.getD ⟨#[]⟩)) := by
        rw [cell_of hc]
        have : k < kws.length := hlt
        simp [this]
      have hup := run_set_update (kws[k]?.getD ⟨#[]⟩) hm (kws_new k hlt)
      rw [← kws_take k hlt] at hup
      generalize hx : kws[k]?.getD ⟨#[]⟩ = x at hck hup
      generalize hy : kset (kws.take (k + 1)) = o at hup
      have HY := Lib.hid hy; clear hy hx
      have HM := Lib.hid hm; clear hm
      have HC := Lib.hid hc; clear hc
      have HB := Lib.hid hb; clear hb
      go_wp2
      go_roundw
      case rel => exact ⟨k + 1, by omega, by go_num, ⟨by rw [HY.out]; exact heap_put HM.out _, (heap_put_other (by omega) _).trans HC.out, below_put HB.out (Nat.le_refl _) _⟩⟩
      case measure => simp [intOf]; omega
    · have HC := Lib.hid hc; clear hc
      have HB := Lib.hid hb; clear hb
      have HM := Lib.hid hm; clear hm
      obtain rfl : k = 11 := by omega
      go_wp2
      go_ret
      exact ⟨rfl, HM.out, HB.out⟩
set_option maxRecDepth 100000 in
set_option maxHeartbeats 400000 in
theorem keyword_any (s : ByteArray) (w : World) :
    Calls Tryz.prog 44 #[.string s] w fun e w' => e = .returned (.bool (kws.any (s == ·))) ∧ Below w.heap.size w w' := by
  go_enter Tryz.func44, Tryz.ntmps44
  go_wp2_with ((with_reducible refine (keywords_any _).mono ?_); rintro e w' ⟨rfl, hm, hb⟩; have hlk := run_set_lookup s hm; have HB := Lib.hid hb; clear hb hm)
  go_ret
  exact ⟨rfl, HB.out⟩
end Go.Proofs.YtfnhjdehlikbaaaGreatDoor.Lx
namespace Go.Proofs.YtfnhjdehlikbaaaGreatDoor.Lx
open Go.RowKit Go.Proofs.YtfnhjdehlikbaaaGreatDoorW.PrintWords
def more (s : ByteArray) (i : Int) : Bool := decide (i + 1 < (s.size : Int)) && ((bt s i == 46) && isLetter (bt s (i + 1)))
def wordsL (s : ByteArray) (a : Int) : Nat → Int → Int → Int → Int × Int
  | 0, n, bad, _ => (n, bad)
  | f + 1, n, bad, many =>
    let k : Int := run isLetter s (a + n).toNat
    let bad1 := if 10 < k ∧ bad < 0 then n + 10 else bad
    let n1 := n + k
    if more s (a + n1) = true then
      wordsL s a f (n1 + 1) (if 5 < many + 1 ∧ bad1 < 0 then n1 else bad1) (many + 1)
    else (n1, bad1)
def words (s : ByteArray) (a : Int) : Int × Int := wordsL s a (s.size + 1) 0 (-1) 1
theorem bt_get (s : ByteArray) (i : Int) (h : i.toNat < s.size) : ((s[i.toNat]'h).toNat : Int) = bt s i := bt_at s i h
set_option maxRecDepth 100000 in
set_option maxHeartbeats 4000000 in
theorem words_any (s : ByteArray) (a : Int) (w : World) (hs : s.size ≤ 140737488351232) (h0 : 0 ≤ a) (ha : a ≤ s.size) :
    Calls Tryz.prog 86 #[.string s, .int .i64 a] w fun e w' => e = .returned (.tuple #[.int .i64 (words s a).1, .int .i64 (words s a).2]) ∧ w = w' := by
  go_enter Tryz.func86, Tryz.ntmps86
  go_wp2
  go_loop [6, 7, 8] (fun t6 t7 t8 => ∃ (f : Nat) (n bad many : Int), t6 = .int .i64 n ∧ t7 = .int .i64 bad ∧ t8 = .int .i64 many ∧ 0 ≤ n ∧ a + n ≤ s.size ∧ -1 ≤ bad ∧ bad ≤ 140737488351260 ∧ 0 ≤ many ∧ many ≤ n + 1 ∧ Aside0 (s.size < a.toNat + n.toNat + f ∧ wordsL s a f n bad many = words s a)) (fun t6 _ _ => s.size + 5 - (intOf t6).toNat)
  case atStart => exact ⟨s.size + 1, 0, -1, 1, rfl, rfl, rfl, by omega, by omega, by omega, by omega, by omega, by omega, ⟨by omega, rfl⟩⟩
  case round =>
    obtain ⟨f, n, bad, many, rfl, rfl, rfl, hn0, hn, hb0, hb1, hm0, hm1, ⟨hf, hw⟩⟩ := hrel
    cases f with
    | zero => exact absurd hf (by omega)
    | succ f =>
      have hk := run_le isLetter s (a + n).toNat (by omega)
      have hkr := fun W => run_letter s (a + n) W hs (by omega) hn
      have hk0 : (0 : Int) ≤ (run isLetter s (a + n).toNat : Int) := by omega
      have hk1 : a + n + (run isLetter s (a + n).toNat : Int) ≤ s.size := by omega
      simp only [wordsL] at hw
      clear hk
      generalize (run isLetter s (a + n).toNat : Int) = k at hw hkr hk0 hk1
      have HKR := Lib.hid hkr; clear hkr
      have hn1 : (0 : Int) ≤ a + (n + k) := by omega
      have HLET := Lib.hid (letter_any (bt s (a + (n + k) + 1)))
      have hb2 : n + 10 ≤ 140737488351260 := by omega
      have hb4 : n + k ≤ 140737488351260 := by omega
      obtain ⟨bad1, hbad1⟩ : ∃ bad1, (if 10 < k ∧ bad < 0 then n + 10 else bad) = bad1 := ⟨_, rfl⟩
      rw [hbad1] at hw
      have HB := Lib.hid hbad1; clear hbad1
      by_cases c1 : a + (n + k) + 1 < s.size
      · have hx1 := bt_at s (a + (n + k))
        have hx2 := bt_at s (a + (n + k) + 1)
        have c1b : decide (a + (n + k) + 1 ≥ (s.size : Int)) = false := decide_eq_false (by omega)
        have c1c : decide (a + (n + k) + 1 < (s.size : Int)) = true := decide_eq_true (by omega)
        by_cases c2 : bt s (a + (n + k)) = 46
        · have c2b : (bt s (a + (n + k)) != 46) = false := by simp [c2]
          cases c3 : isLetter (bt s (a + (n + k) + 1)) with
          | true =>
            have hmore : more s (a + (n + k)) = true := by simp [more, c1, c2, c3]
            rw [if_pos hmore] at hw
            have HC3 := Lib.hid c3; clear c3 c2 hmore
            rcases (show (10 < k ∧ bad < 0) ∨ (10 < k ∧ ¬ bad < 0) ∨ (¬ 10 < k) by omega) with ⟨d1, d2⟩ | ⟨d1, d2⟩ | d1
            · obtain rfl : n + 10 = bad1 := by rw [← HB.out, if_pos ⟨d1, d2⟩]
              rw [if_neg (by omega)] at hw
              have HW := Lib.hid hw; clear hw HB
              by_cases d3 : 5 < many + 1
              all_goals
                go_wp2_with (first | (go_at_call 120; (with_reducible refine (HKR.out _).mono ?_); rintro e w1 ⟨rfl, rfl⟩) | (go_at_call 85; (with_reducible refine (HLET.out _).mono ?_); rintro e w1 ⟨rfl, rfl⟩; rw [HC3.out]))
                go_round
                case rel => exact ⟨f, n + k + 1, n + 10, many + 1, rfl, rfl, rfl, by omega, by omega, by omega, by omega, by omega, by omega, ⟨by omega, HW.out⟩⟩
                case measure => simp [intOf]; omega
            · obtain rfl : bad = bad1 := by rw [← HB.out, if_neg (by omega)]
              rw [if_neg (by omega)] at hw
              have HW := Lib.hid hw; clear hw HB
              by_cases d3 : 5 < many + 1
              all_goals
                go_wp2_with (first | (go_at_call 120; (with_reducible refine (HKR.out _).mono ?_); rintro e w1 ⟨rfl, rfl⟩) | (go_at_call 85; (with_reducible refine (HLET.out _).mono ?_); rintro e w1 ⟨rfl, rfl⟩; rw [HC3.out]))
                go_round
                case rel => exact ⟨f, n + k + 1, bad, many + 1, rfl, rfl, rfl, by omega, by omega, by omega, by omega, by omega, by omega, ⟨by omega, HW.out⟩⟩
                case measure => simp [intOf]; omega
            · obtain rfl : bad = bad1 := by rw [← HB.out, if_neg (by omega)]
              rcases (show (5 < many + 1 ∧ bad < 0) ∨ (5 < many + 1 ∧ ¬ bad < 0) ∨ (¬ 5 < many + 1) by omega) with ⟨d3, d4⟩ | ⟨d3, d4⟩ | d3
              · rw [if_pos ⟨d3, d4⟩] at hw
                have HW := Lib.hid hw; clear hw HB
                go_wp2_with (first | (go_at_call 120; (with_reducible refine (HKR.out _).mono ?_); rintro e w1 ⟨rfl, rfl⟩) | (go_at_call 85; (with_reducible refine (HLET.out _).mono ?_); rintro e w1 ⟨rfl, rfl⟩; rw [HC3.out]))
                go_round
                case rel => exact ⟨f, n + k + 1, n + k, many + 1, rfl, rfl, rfl, by omega, by omega, by omega, by omega, by omega, by omega, ⟨by omega, HW.out⟩⟩
                case measure => simp [intOf]; omega
              all_goals
                rw [if_neg (by omega)] at hw
                have HW := Lib.hid hw; clear hw HB
                go_wp2_with (first | (go_at_call 120; (with_reducible refine (HKR.out _).mono ?_); rintro e w1 ⟨rfl, rfl⟩) | (go_at_call 85; (with_reducible refine (HLET.out _).mono ?_); rintro e w1 ⟨rfl, rfl⟩; rw [HC3.out]))
                go_round
                case rel => exact ⟨f, n + k + 1, bad, many + 1, rfl, rfl, rfl, by omega, by omega, by omega, by omega, by omega, by omega, ⟨by omega, HW.out⟩⟩
                case measure => simp [intOf]; omega
          | false =>
            have hmore : ¬ more s (a + (n + k)) = true := by simp [more, c1, c2, c3]
            rw [if_neg hmore] at hw
            have HC3 := Lib.hid c3; clear c3 c2 hmore
            rcases (show (10 < k ∧ bad < 0) ∨ (10 < k ∧ ¬ bad < 0) ∨ (¬ 10 < k) by omega) with ⟨d1, d2⟩ | ⟨d1, d2⟩ | d1
            · obtain rfl : n + 10 = bad1 := by rw [← HB.out, if_pos ⟨d1, d2⟩]
              have HW := Lib.hid hw; clear hw HB
              go_wp2_with (first | (go_at_call 120; (with_reducible refine (HKR.out _).mono ?_); rintro e w1 ⟨rfl, rfl⟩) | (go_at_call 85; (with_reducible refine (HLET.out _).mono ?_); rintro e w1 ⟨rfl, rfl⟩; rw [HC3.out]))
              go_ret2
              exact ⟨by rw [← HW.out]; rfl, rfl⟩
            all_goals
              obtain rfl : bad = bad1 := by rw [← HB.out, if_neg (by omega)]
              have HW := Lib.hid hw; clear hw HB
              go_wp2_with (first | (go_at_call 120; (with_reducible refine (HKR.out _).mono ?_); rintro e w1 ⟨rfl, rfl⟩) | (go_at_call 85; (with_reducible refine (HLET.out _).mono ?_); rintro e w1 ⟨rfl, rfl⟩; rw [HC3.out]))
              go_ret2
              exact ⟨by rw [← HW.out]; rfl, rfl⟩
        · have c2b : (bt s (a + (n + k)) != 46) = true := by simp [c2]
          have hmore : ¬ more s (a + (n + k)) = true := by simp [more, c2]
          rw [if_neg hmore] at hw
          clear c2 hmore
          rcases (show (10 < k ∧ bad < 0) ∨ (10 < k ∧ ¬ bad < 0) ∨ (¬ 10 < k) by omega) with ⟨d1, d2⟩ | ⟨d1, d2⟩ | d1
          · obtain rfl : n + 10 = bad1 := by rw [← HB.out, if_pos ⟨d1, d2⟩]
            have HW := Lib.hid hw; clear hw HB
            go_wp2_with (go_at_call 120; (with_reducible refine (HKR.out _).mono ?_); rintro e w1 ⟨rfl, rfl⟩)
            go_ret2
            exact ⟨by rw [← HW.out]; rfl, rfl⟩
          all_goals
            obtain rfl : bad = bad1 := by rw [← HB.out, if_neg (by omega)]
            have HW := Lib.hid hw; clear hw HB
            go_wp2_with (go_at_call 120; (with_reducible refine (HKR.out _).mono ?_); rintro e w1 ⟨rfl, rfl⟩)
            go_ret2
            exact ⟨by rw [← HW.out]; rfl, rfl⟩
      · have c1b : decide (a + (n + k) + 1 ≥ (s.size : Int)) = true := decide_eq_true (by omega)
        have c1d : (s.size : Int) ≤ a + (n + k) + 1 := by omega
        have hmore : ¬ more s (a + (n + k)) = true := by simp [more, c1]
        rw [if_neg hmore] at hw
        clear c1 hmore
        rcases (show (10 < k ∧ bad < 0) ∨ (10 < k ∧ ¬ bad < 0) ∨ (¬ 10 < k) by omega) with ⟨d1, d2⟩ | ⟨d1, d2⟩ | d1
        · obtain rfl : n + 10 = bad1 := by rw [← HB.out, if_pos ⟨d1, d2⟩]
          have HW := Lib.hid hw; clear hw HB
          go_wp2_with (go_at_call 120; (with_reducible refine (HKR.out _).mono ?_); rintro e w1 ⟨rfl, rfl⟩)
          go_ret2
          exact ⟨by rw [← HW.out]; rfl, rfl⟩
        all_goals
          obtain rfl : bad = bad1 := by rw [← HB.out, if_neg (by omega)]
          have HW := Lib.hid hw; clear hw HB
          go_wp2_with (go_at_call 120; (with_reducible refine (HKR.out _).mono ?_); rintro e w1 ⟨rfl, rfl⟩)
          go_ret2
          exact ⟨by rw [← HW.out]; rfl, rfl⟩
end Go.Proofs.YtfnhjdehlikbaaaGreatDoor.Lx
namespace Go.Proofs.YtfnhjdehlikbaaaGreatDoor.Lx
open Go.RowKit Go.Proofs.YtfnhjdehlikbaaaGreatDoorW.PrintWords
def numL : List UInt8 → Int → Int
  | [], n => n
  | b :: bs, n => if 1073741824 < 10 * n + ((b.toNat : Int) - 48) then 10 * n + ((b.toNat : Int) - 48) else numL bs (10 * n + ((b.toNat : Int) - 48))
def number (s : ByteArray) : Int := numL s.data.toList 0
theorem drop_cons (s : ByteArray) (p : Nat) (h : p < s.size) : s.data.toList.drop p = s[p] :: s.data.toList.drop (p + 1) := by
  rw [List.drop_eq_getElem_cons (by simpa using h)]
  rfl
def allDigits (s : ByteArray) : Prop := ∀ i, (h : i < s.size) → isDigit ((s[i]'h).toNat : Int) = true
theorem digit_range {c : Int} (h : isDigit c = true) : 48 ≤ c ∧ c ≤ 57 := by
  simp [isDigit] at h; exact h
set_option maxRecDepth 100000 in
set_option maxHeartbeats 1000000 in
theorem number_any (s : ByteArray) (w : World) (hs : s.size ≤ 140737488351232) (hd : allDigits s) :
    Calls Tryz.prog 134 #[.string s] w fun e w' => e = .returned (.int .i64 (number s)) ∧ Below w.heap.size w w' := by
  go_enter Tryz.func134, Tryz.ntmps134
  go_wp2
  go_loopw [3] (fun t3 wr => ∃ (pos : Nat) (n : Int), wr = w.iter s pos ∧ t3 = .int .i64 n ∧ pos ≤ s.size ∧ 0 ≤ n ∧ n ≤ 1073741824 ∧ Aside0 (numL (s.data.toList.drop pos) n = number s)) (fun _ wr => s.size - wr.iterPos w.heap.size)
  case atStart => exact ⟨0, 0, rfl, rfl, by omega, by omega, by omega, ⟨rfl⟩⟩
  case round =>
    obtain ⟨pos, n, rfl, rfl, hp, hn0, hn1, ⟨hv⟩⟩ := hrel
    have hpos := iterPos_of (World.iter_heap w s pos)
    by_cases hlt : pos < s.size
    · have hdp := digit_range (hd pos hlt)
      have hnx : ∀ ty, (Instr.next (.pointer (some ⟨w.heap.size, 0, none⟩)) true ty).run Tryz.prog (w.iter s pos) = _ := fun ty => run_next_ascii w s pos ty hlt (by omega)
      rw [drop_cons s pos hlt] at hv
      simp only [numL] at hv
      generalize ((s[pos]'hlt).toNat : Int) = c at hv hnx hdp
      obtain ⟨hc0, hc1⟩ := hdp
      by_cases hbig : 1073741824 < 10 * n + (c - 48)
      · rw [if_pos hbig] at hv
        have HV := Lib.hid hv; clear hv
        have HP := Lib.hid hpos; clear hpos
        go_wp2
        go_ret
        exact ⟨by rw [← HV.out]; rfl, (Below.refl _ _).alloc (Nat.le_refl _) _⟩
      · rw [if_neg hbig] at hv
        have HV := Lib.hid hv; clear hv
        go_wp2
        go_roundw
        case rel => exact ⟨pos + 1, _, rfl, rfl, by omega, by omega, by omega, ⟨HV.out⟩⟩
        case measure => rw [iterPos_of (World.iter_heap w s pos), iterPos_of (World.iter_heap w s (pos + 1))]; omega
    · have hnx : ∀ ty, (Instr.next (.pointer (some ⟨w.heap.size, 0, none⟩)) true ty).run Tryz.prog (w.iter s pos) = _ := fun ty => run_next_end w s pos ty hlt
      have hv' : n = number s := by
        rw [← hv, List.drop_of_length_le (by simp; omega)]
        rfl
      have HV := Lib.hid hv'; clear hv hv' hpos
      go_wp2
      go_ret
      exact ⟨by rw [← HV.out]; rfl, (Below.refl _ _).alloc (Nat.le_refl _) _⟩
end Go.Proofs.YtfnhjdehlikbaaaGreatDoor.Lx
namespace Go.Proofs.YtfnhjdehlikbaaaGreatDoor.Lx
open Go.RowKit Go.Proofs.YtfnhjdehlikbaaaGreatDoorW.PrintWords
def hasPrefix (s p : ByteArray) : Bool := p.data.toList.isPrefixOf s.data.toList
theorem len_data (s : ByteArray) : s.data.toList.length = s.size := by simp
theorem extract_eq (s p : ByteArray) : ((s.extract 0 p.size).toList == p.toList) = hasPrefix s p := by
  rw [ByteArray.toList_eq, ByteArray.toList_eq, Lib.extract_data, List.drop_zero, Nat.sub_zero, Bool.eq_iff_iff, beq_iff_eq]
  unfold hasPrefix
  rw [List.isPrefixOf_iff_prefix, List.prefix_iff_eq_take, len_data]
  exact eq_comm
theorem no_prefix (s p : ByteArray) (h : ¬ p.size ≤ s.size) : hasPrefix s p = false := by
  cases hh : hasPrefix s p with
  | false => rfl
  | true =>
    have := List.IsPrefix.length_le (List.isPrefixOf_iff_prefix.1 hh)
    rw [len_data, len_data] at this
    exact absurd this h
set_option maxRecDepth 100000 in
theorem prefix66 (s p : ByteArray) (w : World) (hs : s.size ≤ 140737488351232) (hp : p.size ≤ 140737488351232) :
    Calls Tryz.prog 66 #[.string s, .string p] w fun e w' => e = .returned (.bool (hasPrefix s p)) ∧ w = w' := by
  by_cases h : p.size ≤ s.size
  · go_enter Tryz.func66, Tryz.ntmps66
    go_wp2
    go_ret
    exact ⟨by rw [← extract_eq]; rfl, rfl⟩
  · have h' : decide (s.size ≥ p.size) = false := decide_eq_false (by omega)
    go_enter Tryz.func66, Tryz.ntmps66
    go_wp2
    go_ret
    exact ⟨by rw [no_prefix s p h]; rfl, rfl⟩
set_option maxRecDepth 100000 in
theorem hasPrefix_any (s p : ByteArray) (w : World) (hs : s.size ≤ 140737488351232) (hp : p.size ≤ 140737488351232) :
    Calls Tryz.prog 35 #[.string s, .string p] w fun e w' => e = .returned (.bool (hasPrefix s p)) ∧ w = w' := by
  go_enter Tryz.func35, Tryz.ntmps35
  go_wp2_with (go_at_call 66; (with_reducible refine (prefix66 s p _ hs hp).mono ?_); rintro e w1 ⟨rfl, rfl⟩)
  go_ret
  exact ⟨rfl, rfl⟩
def sgs : List ByteArray := [⟨#[45, 62]⟩, ⟨#[61, 61]⟩, ⟨#[92]⟩, ⟨#[61]⟩, ⟨#[43]⟩, ⟨#[45]⟩, ⟨#[42]⟩, ⟨#[60]⟩, ⟨#[40]⟩, ⟨#[41]⟩, ⟨#[123]⟩, ⟨#[125]⟩, ⟨#[124]⟩, ⟨#[44]⟩, ⟨#[58]⟩, ⟨#[35]⟩, ⟨#[39]⟩, ⟨#[95]⟩]
theorem signs_any (w : World) :
    Calls Tryz.prog 132 #[] w fun e w' => e = .returned (.slice (some ⟨w.heap.size, 0, none⟩) 18 18) ∧ w.alloc (.cells (sgs.map Value.string).toArray 9) = w' := by
  go_enter Tryz.func132, Tryz.ntmps132
  go_wp2
  go_ret
  exact ⟨rfl, rfl⟩
def longest (s : ByteArray) : ByteArray := (sgs.find? (fun x => hasPrefix s x)).getD ⟨#[]⟩
theorem sgs_size : ∀ k, k < 18 → (sgs[k]?.getD ⟨#[]⟩).size ≤ 2 := by decide +kernel
theorem find_take (p : ByteArray → Bool) (k : Nat) (h : k < 18) (hn : (sgs.take k).find? p = none) : (sgs.take (k + 1)).find? p = if p (sgs[k]?.getD ⟨#[]⟩) = true then some (sgs[k]?.getD ⟨#[]⟩) else none := by
  have hl : k < sgs.length := h
  have e : sgs[k]?.getD ⟨#[]⟩ = sgs[k] := by simp [hl]
  rw [e, List.take_succ_eq_append_getElem hl, List.find?_append, hn]
  cases h : p sgs[k] <;> simp [List.find?_cons, h]
set_option maxRecDepth 100000 in
set_option maxHeartbeats 1000000 in
theorem longest_any (s : ByteArray) (w : World) (hs : s.size ≤ 140737488351232) :
    Calls Tryz.prog 135 #[.string s] w fun e w' => e = .returned (.string (longest s)) ∧ Below w.heap.size w w' := by
  go_enter Tryz.func135, Tryz.ntmps135
  go_wp2; go_step3
  go_wp2; go_step3
  go_wp2_with (go_at_call 132; (with_reducible refine (signs_any _).mono ?_); rintro e w1 ⟨rfl, rfl⟩)
  go_loop [3, 8] (fun t3 i => ∃ k : Nat, k ≤ 18 ∧ i = .int .i64 k ∧ t3 = .string ⟨#[]⟩ ∧ Aside0 ((sgs.take k).find? (fun x => hasPrefix s x) = none)) (fun _ i => 18 - (intOf i).toNat)
  case atStart => exact ⟨0, by omega, rfl, rfl, ⟨rfl⟩⟩
  case round =>
    obtain ⟨k, hk, rfl, rfl, ⟨hf⟩⟩ := hrel
    by_cases hlt : k < 18
    · have hck : (w.alloc (.cells (sgs.map Value.string).toArray 9)).cell? ⟨w.heap.size, k, none⟩ = some (.string (sgs[k]?.getD ⟨#[]⟩)) := by
        rw [cell_of (heap_new w _)]
        have : k < sgs.length := hlt
        simp [this]
      have hpx := hasPrefix_any s (sgs[k]?.getD ⟨#[]⟩)
      have hsz := sgs_size k hlt
      have hf1 := find_take (fun x => hasPrefix s x) k hlt hf
      generalize hx : sgs[k]?.getD ⟨#[]⟩ = x at hck hpx hsz hf1
      have HPX := Lib.hid (fun W => hpx W hs (by omega)); clear hpx hx
      cases hb : hasPrefix s x with
      | true =>
        have hl : longest s = x := by
          have h2 : (sgs.take (k + 1) ++ sgs.drop (k + 1)).find? (fun x => hasPrefix s x) = some x := by
            rw [List.find?_append, hf1, if_pos hb]; rfl
          rw [List.take_append_drop] at h2
          rw [longest, h2]; rfl
        have HL := Lib.hid hl; clear hl
        have HB := Lib.hid hb; clear hb hf1
        go_wp2_with (go_at_call 35; (with_reducible refine (HPX.out _).mono ?_); rintro e w1 ⟨rfl, rfl⟩; rw [HB.out])
        rw [Exit.noGoto_ret]
        go_ret
        exact ⟨by rw [HL.out]; rfl, (Below.refl _ _).alloc (Nat.le_refl _) _⟩
      | false =>
        rw [if_neg (by simp [hb])] at hf1
        have HB := Lib.hid hb; clear hb
        have HF := Lib.hid hf1; clear hf1
        go_wp2_with (go_at_call 35; (with_reducible refine (HPX.out _).mono ?_); rintro e w1 ⟨rfl, rfl⟩; rw [HB.out])
        go_round
        case rel => exact ⟨k + 1, by omega, by go_num, rfl, ⟨HF.out⟩⟩
        case measure => simp [intOf]; omega
    · obtain rfl : k = 18 := by omega
      have hl : longest s = ⟨#[]⟩ := by
        have h2 : sgs.find? (fun x => hasPrefix s x) = none := hf
        rw [longest, h2]; rfl
      have HL := Lib.hid hl; clear hl
      go_wp2
      first | (rw [Exit.noGoto_ret]; go_ret) | go_ret
      exact ⟨by rw [HL.out]; rfl, (Below.refl _ _).alloc (Nat.le_refl _) _⟩
end Go.Proofs.YtfnhjdehlikbaaaGreatDoor.Lx
namespace Go.Proofs.YtfnhjdehlikbaaaGreatDoor.Lx
open Go.RowKit Go.Proofs.YtfnhjdehlikbaaaGreatDoorW.PrintWords
def kind1 (c : Int) : Int := if isLetter c = true then 1 else if isDigit c = true then 2 else 0
def tbl1 (k : Nat) : Array Value := Array.ofFn (n := 256) fun i => .int .i64 (if i.val < k then kind1 i.val else 0)
def isSign (k : Nat) (c : Int) : Bool := (sgs.take k).any fun x => bt x 0 == c
def tbl2 (k : Nat) : Array Value := Array.ofFn (n := 256) fun i => .int .i64 (if isSign k i.val = true then 3 else kind1 i.val)
def kindOf (c : Int) : Int := if isSign 18 c = true then 3 else kind1 c
theorem tbl1_size (k : Nat) : (tbl1 k).size = 256 := by simp [tbl1]
theorem tbl2_size (k : Nat) : (tbl2 k).size = 256 := by simp [tbl2]
theorem tbl1_get (k i : Nat) (h : i < 256) : (tbl1 k)[i]? = some (.int .i64 (if i < k then kind1 i else 0)) := by
  simp [tbl1, h]
theorem tbl2_get (k i : Nat) (h : i < 256) : (tbl2 k)[i]? = some (.int .i64 (if isSign k i = true then 3 else kind1 i)) := by
  simp [tbl2, h]
theorem tbl1_set (k : Nat) (h : k < 256) : (tbl1 k).setIfInBounds k (.int .i64 (kind1 k)) = tbl1 (k + 1) := by
  apply Array.ext
  · simp [tbl1_size]
  · intro i h1 h2
    simp only [Array.size_setIfInBounds, tbl1_size] at h1 h2
    have e : ∀ (a : Array Value) (ha : i < a.size), a[i]'ha = a[i]?.getD undef := fun a ha => by simp [ha]
    rw [e, e, Array.getElem?_setIfInBounds, tbl1_get _ _ h1, tbl1_get _ _ h1]
    by_cases hi : k = i
    · subst hi; simp [tbl1_size, h]
    · rw [if_neg hi]
      by_cases h3 : i < k
      · simp [h3, show i < k + 1 by omega]
      · simp [h3, show ¬ i < k + 1 by omega]
theorem tbl1_skip (k : Nat) (h : k < 256) (h0 : kind1 k = 0) : tbl1 k = tbl1 (k + 1) := by
  rw [← tbl1_set k h, h0]
  apply Array.ext
  · simp
  · intro i h1 h2
    simp only [tbl1_size] at h1
    have e : ∀ (a : Array Value) (ha : i < a.size), a[i]'ha = a[i]?.getD undef := fun a ha => by simp [ha]
    rw [e, e, Array.getElem?_setIfInBounds, tbl1_get _ _ h1]
    by_cases hi : k = i
    · subst hi; simp [tbl1_size, h]
    · rw [if_neg hi]
theorem tbl12 : tbl1 256 = tbl2 0 := by
  apply Array.ext
  · simp [tbl1_size, tbl2_size]
  · intro i h1 h2
    simp only [tbl1_size] at h1
    have e : ∀ (a : Array Value) (ha : i < a.size), a[i]'ha = a[i]?.getD undef := fun a ha => by simp [ha]
    rw [e, e, tbl1_get _ _ h1, tbl2_get _ _ h1]
    simp [h1, isSign]
theorem sgs_first : ∀ k, k < 18 → 0 < (sgs[k]?.getD ⟨#[]⟩).size := by decide +kernel
theorem isSign_succ (k : Nat) (h : k < 18) (c : Int) : isSign (k + 1) c = (isSign k c || (bt (sgs[k]?.getD ⟨#[]⟩) 0 == c)) := by
  have hl : k < sgs.length := h
  have e : sgs[k]?.getD ⟨#[]⟩ = sgs[k] := by simp [hl]
  unfold isSign
  rw [List.take_succ_eq_append_getElem hl, List.any_append, e]
  simp
theorem tbl2_set (k : Nat) (h : k < 18) (c : Nat) (hc : c < 256) (hx : bt (sgs[k]?.getD ⟨#[]⟩) 0 = c) : (tbl2 k).setIfInBounds c (.int .i64 3) = tbl2 (k + 1) := by
  apply Array.ext
  · simp [tbl2_size]
  · intro i h1 h2
    simp only [Array.size_setIfInBounds, tbl2_size] at h1 h2
    have e : ∀ (a : Array Value) (ha : i < a.size), a[i]'ha = a[i]?.getD undef := fun a ha => by simp [ha]
    rw [e, e, Array.getElem?_setIfInBounds, tbl2_get _ _ h1, tbl2_get _ _ h1, isSign_succ k h, hx]
    by_cases hi : c = i
    · subst hi; simp [tbl2_size, hc]
    · have hb : ((c : Int) == (i : Int)) = false := by simp; omega
      rw [if_neg hi, hb, Bool.or_false]
theorem setRow_same {w : World} {g : Nat} {old : Array Value} {t : TypeId} (h : w.heap[g]? = some (.cells old t (0, 0))) (cs : Array Value) : (w.setRow g cs).heap[g]? = some (.cells cs t (0, 0)) := setRow_heap w g old cs t _ h
theorem setRow_below {w : World} {g B : Nat} (h : B ≤ g) (cs : Array Value) : Below B w (w.setRow g cs) :=
  ⟨rfl, rfl, rfl, by simp, fun k hk => setRow_other w g k cs (by omega)⟩
set_option maxRecDepth 100000 in
set_option maxHeartbeats 4000000 in
theorem begins_any (w : World) :
    Calls Tryz.prog 97 #[] w fun e w' => e = .returned (.agg (tbl2 18)) ∧ Below w.heap.size w w' := by
  have hz : Tryz.zeroCells142 = tbl1 0 := by kernel_rfl
  go_enter Tryz.func97, Tryz.ntmps97
  go_wp2
  go_loopw [5] (fun t5 wr => ∃ k : Nat, k ≤ 256 ∧ t5 = .int .i64 k ∧ Aside0 (wr.heap[w.heap.size]? = some (.cells (tbl1 0) 142) ∧ wr.heap[w.heap.size + 1]? = some (.cells (tbl1 k) 142) ∧ Below w.heap.size w wr)) (fun t5 _ => 256 - (intOf t5).toNat)
  case atStart => exact ⟨0, by omega, rfl, ⟨heap_alloc (heap_new w _) _, heap_new' (w.alloc _) _ _ (by simp), ((Below.refl _ _).alloc (Nat.le_refl _) _).alloc (by simp) _⟩⟩
  case round =>
    obtain ⟨k, hk, rfl, ⟨hA, hB, hb⟩⟩ := hrel
    by_cases hlt : k < 256
    · have hc1 : wr.cell? ⟨w.heap.size + 1, k, none⟩ = some (.int .i64 0) := by rw [cell_of hB, tbl1_get _ _ hlt]; simp
      have hf1 : wr.frozen? ⟨w.heap.size + 1, k, none⟩ = false := free_of hB _
      have HLET := Lib.hid (letter_any (k : Int))
      have HDIG := Lib.hid (digit_any (k : Int))
      have HA := Lib.hid hA; clear hA
      have HB := Lib.hid hB; clear hB
      have HW := Lib.hid hb; clear hb hz
      cases hl : isLetter (k : Int) with
      | true =>
        have hk1 : kind1 (k : Int) = 1 := by simp [kind1, hl]
        have HL := Lib.hid hl; clear hl
        have HK := Lib.hid hk1; clear hk1
        go_wp2_with (go_at_call 85; (with_reducible refine (HLET.out _).mono ?_); rintro e w1 ⟨rfl, rfl⟩; rw [HL.out])
        go_roundw
        case rel => exact ⟨k + 1, by omega, by go_num, ⟨(heap_set_other (by simp) _).trans HA.out, by rw [heap_set HB.out, ← tbl1_set k hlt, HK.out], HW.out.setCell (by simp) _⟩⟩
        case measure => simp [intOf]; omega
      | false =>
        cases hd : isDigit (k : Int) with
        | true =>
          have hk1 : kind1 (k : Int) = 2 := by simp [kind1, hl, hd]
          have HL := Lib.hid hl; clear hl
          have HD := Lib.hid hd; clear hd
          have HK := Lib.hid hk1; clear hk1
          go_wp2_with (first | (go_at_call 85; (with_reducible refine (HLET.out _).mono ?_); rintro e w1 ⟨rfl, rfl⟩; rw [HL.out]) | (go_at_call 131; (with_reducible refine (HDIG.out _).mono ?_); rintro e w1 ⟨rfl, rfl⟩; rw [HD.out]))
          go_roundw
          case rel => exact ⟨k + 1, by omega, by go_num, ⟨(heap_set_other (by simp) _).trans HA.out, by rw [heap_set HB.out, ← tbl1_set k hlt, HK.out], HW.out.setCell (by simp) _⟩⟩
          case measure => simp [intOf]; omega
        | false =>
          have hk1 : kind1 (k : Int) = 0 := by simp [kind1, hl, hd]
          have HL := Lib.hid hl; clear hl
          have HD := Lib.hid hd; clear hd
          have HK := Lib.hid hk1; clear hk1 hc1 hf1
          go_wp2_with (first | (go_at_call 85; (with_reducible refine (HLET.out _).mono ?_); rintro e w1 ⟨rfl, rfl⟩; rw [HL.out]) | (go_at_call 131; (with_reducible refine (HDIG.out _).mono ?_); rintro e w1 ⟨rfl, rfl⟩; rw [HD.out]))
          go_roundw
          case rel => exact ⟨k + 1, by omega, by go_num, ⟨HA.out, by rw [HB.out, tbl1_skip k hlt HK.out], HW.out⟩⟩
          case measure => simp [intOf]; omega
    · obtain rfl : k = 256 := by omega
      clear hk hlt
      rw [tbl12] at hB
      have hlt1 := heap_lt hB
      obtain ⟨wm, rfl⟩ : ∃ wm : World, wm = wr := ⟨_, rfl⟩
      have HA := Lib.hid hA; clear hA
      have HB := Lib.hid hB; clear hB
      have HW := Lib.hid hb; clear hb hz
      go_wp2_with (go_at_call 132; (with_reducible refine (signs_any _).mono ?_); rintro e w1 ⟨rfl, rfl⟩)
      go_loopw [23] (fun t23 wr => ∃ k : Nat, k ≤ 18 ∧ t23 = .int .i64 k ∧ Aside0 (wr.heap[w.heap.size]? = some (.cells (tbl1 0) 142) ∧ wr.heap[w.heap.size + 1]? = some (.cells (tbl2 k) 142) ∧ wr.heap[wm.heap.size]? = some (.cells (sgs.map Value.string).toArray 9) ∧ Below w.heap.size w wr)) (fun t23 _ => 18 - (intOf t23).toNat)
      case atStart => exact ⟨0, by omega, rfl, ⟨heap_alloc HA.out _, heap_alloc HB.out _, heap_new _ _, HW.out.alloc HW.out.size _⟩⟩
      case round =>
        clear HA HB HW
        obtain ⟨k, hk, rfl, ⟨hA, hB, hS, hb⟩⟩ := hrel
        by_cases hlt : k < 18
        · have hck : wr.cell? ⟨wm.heap.size, k, none⟩ = some (.string (sgs[k]?.getD ⟨#[]⟩)) := by
            rw [cell_of hS]
            have : k < sgs.length := hlt
            simp [this]
          have hpos := sgs_first k hlt
          have hset := tbl2_set k hlt
          generalize sgs[k]?.getD ⟨#[]⟩ = x at hck hpos hset
          have hb0 := bt_get x 0 hpos
          obtain ⟨b, hbb⟩ : ∃ b : UInt8, x[0]'hpos = b := ⟨_, rfl⟩
          have hcl : b.toNat < 256 := UInt8.toNat_lt b
          have hbt : bt x 0 = b.toNat := by rw [← hb0, ← hbb]; rfl
          have hset' := hset b.toNat hcl hbt
          have hc1 : wr.cell? ⟨w.heap.size + 1, b.toNat, none⟩ = some (.int .i64 (if isSign k b.toNat = true then 3 else kind1 b.toNat)) := by rw [cell_of hB, tbl2_get _ _ hcl]
          have hf1 : wr.frozen? ⟨w.heap.size + 1, b.toNat, none⟩ = false := free_of hB _
          generalize (if isSign k b.toNat = true then (3 : Int) else kind1 b.toNat) = old at hc1
          clear hbt hb0
          have HA := Lib.hid hA; clear hA
          have HB := Lib.hid hB; clear hB
          have HS := Lib.hid hS; clear hS
          have HW := Lib.hid hb; clear hb hset
          have HT := Aside0.mk hset'
          clear hset'
          go_wp2
          go_roundw
          case rel => exact ⟨k + 1, by omega, by go_num, ⟨(heap_set_other (by simp) _).trans HA.out, by rw [heap_set HB.out, ← HT.out], (heap_set_other (by simp; omega) _).trans HS.out, HW.out.setCell (by simp) _⟩⟩
          case measure => simp [intOf]; omega
        · obtain rfl : k = 18 := by omega
          clear hk hlt hS
          have h1 := free_of hA
          have HA := Aside0.mk hA; clear hA
          have HW := Aside0.mk hb; clear hb
          have hz1 : (tbl1 0).size = (tbl2 18).size := by rw [tbl1_size, tbl2_size]
          have hz2 : (Tryz.prog.info? 142).map (·.size) = some (tbl2 18).size := by rw [tbl2_size]; kernel_rfl
          have hz3 : (tbl2 18).all (·.oneCell') = true := by
            rw [Array.all_eq_true_iff_forall_mem]
            intro v hv
            simp only [tbl2, Array.mem_ofFn] at hv
            obtain ⟨i, rfl⟩ := hv
            rfl
          generalize hT : tbl2 18 = T at hB hz1 hz2 hz3
          have HT := Aside0.mk hT
          clear hT
          have HZ1 := Aside0.mk hz1; clear hz1
          have HZ2 := Aside0.mk hz2; clear hz2
          have HZ3 := Aside0.mk hz3; clear hz3
          have HB := Aside0.mk hB; clear hB
          go_wp2_with (first | (refine wpList_load_row rfl 142 _ rfl (w.heap.size + 1) rfl 142 T (0, 0) _ HB.out Tryz.underlying142 rfl HZ2.out ?_) | (refine wpList_store_row rfl 142 _ _ rfl w.heap.size T rfl rfl 142 (tbl1 0) HA.out HZ2.out HZ1.out HZ3.out ?_))
          refine bodyPost_ret (v := .agg T) (results_cell_row rfl _ _ w.heap.size 142 T (0, 0) _ rfl (setRow_same HA.out T) Tryz.underlying142 rfl HZ2.out) rfl ⟨by rw [HT.out], ?_⟩
          exact HW.out.trans (setRow_below (Nat.le_refl _) T)
end Go.Proofs.YtfnhjdehlikbaaaGreatDoor.Lx
namespace Go.Proofs.YtfnhjdehlikbaaaGreatDoor.Lx
open Go.RowKit Go.Proofs.YtfnhjdehlikbaaaGreatDoorW.PrintWords
structure Keep (S : Nat → Prop) (w w' : World) : Prop where
  os : w'.os = w.os
  tape : w'.tape = w.tape
  output : w'.output = w.output
  size : w.heap.size ≤ w'.heap.size
  block : ∀ k, k < w.heap.size → ¬ S k → w'.heap[k]? = w.heap[k]?
theorem Keep.refl (S : Nat → Prop) (w : World) : Keep S w w := ⟨rfl, rfl, rfl, Nat.le_refl _, fun _ _ _ => rfl⟩
theorem Keep.trans {S : Nat → Prop} {a b c : World} (h : Keep S a b) (k : Keep S b c) : Keep S a c :=
  ⟨k.os.trans h.os, k.tape.trans h.tape, k.output.trans h.output, Nat.le_trans h.size k.size, fun i hi hs => (k.block i (Nat.lt_of_lt_of_le hi h.size) hs).trans (h.block i hi hs)⟩
theorem Keep.then {S S' : Nat → Prop} {a b c : World} (h : Keep S a b) (k : Keep S' b c) (hS : ∀ i, i < a.heap.size → S' i → S i) : Keep S a c :=
  ⟨k.os.trans h.os, k.tape.trans h.tape, k.output.trans h.output, Nat.le_trans h.size k.size, fun i hi hs => (k.block i (Nat.lt_of_lt_of_le hi h.size) (fun h' => hs (hS i hi h'))).trans (h.block i hi hs)⟩
theorem Keep.mono {S S' : Nat → Prop} {a b : World} (h : Keep S a b) (hS : ∀ i, S i → S' i) : Keep S' a b :=
  ⟨h.os, h.tape, h.output, h.size, fun i hi hs => h.block i hi (fun h' => hs (hS i h'))⟩
theorem Keep.of_below {S : Nat → Prop} {a b : World} (h : Below a.heap.size a b) : Keep S a b := ⟨h.os, h.tape, h.output, h.size, fun i hi _ => h.block i hi⟩
theorem Keep.below {S : Nat → Prop} {a b : World} (h : Keep S a b) {B : Nat} (hB : B ≤ a.heap.size) (hS : ∀ i, i < B → ¬ S i) : Below B a b :=
  ⟨h.os, h.tape, h.output, h.size, fun i hi => h.block i (by omega) (hS i hi)⟩
theorem Keep.alloc {S : Nat → Prop} {a b : World} (h : Keep S a b) (o : Obj) : Keep S a (b.alloc o) :=
  ⟨h.os, h.tape, h.output, Nat.le_trans h.size (by simp), fun i hi hs => (heap_old o (Nat.lt_of_lt_of_le hi h.size)).trans (h.block i hi hs)⟩
theorem Keep.setCell {S : Nat → Prop} {a b : World} (h : Keep S a b) {p : Addr} (hp : S p.block ∨ a.heap.size ≤ p.block) (v : Value) : Keep S a (b.setCell p v) :=
  ⟨h.os, h.tape, h.output, Nat.le_trans h.size (by simp [World.setCell]), fun i hi hs => (heap_set_other (by rintro rfl; rcases hp with hp | hp; exact hs hp; omega) v).trans (h.block i hi hs)⟩
theorem Keep.put {S : Nat → Prop} {a b : World} (h : Keep S a b) {r : Nat} (hp : S r ∨ a.heap.size ≤ r) (o : Obj) : Keep S a (b.putObj r o) :=
  ⟨h.os, h.tape, h.output, Nat.le_trans h.size (by simp), fun i hi hs => (heap_put_other (by rintro rfl; rcases hp with hp | hp; exact hs hp; omega) o).trans (h.block i hi hs)⟩
theorem Keep.drewN {S : Nat → Prop} {a b : World} (h : Keep S a b) (n : Nat) : Keep S a (b.drewN n) := ⟨h.os, h.tape, h.output, h.size, h.block⟩
theorem Keep.drew {S : Nat → Prop} {a b : World} (h : Keep S a b) : Keep S a b.drew := ⟨h.os, h.tape, h.output, h.size, h.block⟩
def Src (w : World) (g : Nat) (at_ line col : Int) (s : ByteArray) : Prop := w.heap[g]? = some (.cells #[.int .i64 at_, .int .i64 line, .int .i64 col, .string s] 112)
theorem src_set0 {w : World} {g : Nat} {a l c : Int} {s : ByteArray} (h : Src w g a l c s) (x : Int) : Src (w.setCell ⟨g, 0, none⟩ (.int .i64 x)) g x l c s := heap_set h 0 _
theorem src_set1 {w : World} {g : Nat} {a l c : Int} {s : ByteArray} (h : Src w g a l c s) (x : Int) : Src (w.setCell ⟨g, 1, none⟩ (.int .i64 x)) g a x c s := heap_set h 1 _
theorem src_set2 {w : World} {g : Nat} {a l c : Int} {s : ByteArray} (h : Src w g a l c s) (x : Int) : Src (w.setCell ⟨g, 2, none⟩ (.int .i64 x)) g a l x s := heap_set h 2 _
theorem src_drew {w : World} {g : Nat} {a l c : Int} {s : ByteArray} (h : Src w g a l c s) : Src w.drew g a l c s := h
def adv : List UInt8 → Int × Int → Int × Int
  | [], p => p
  | b :: l, p => adv l (if b = 10 then (p.1 + 1, 0) else (p.1, p.2 + 1))
theorem extract_size (s : ByteArray) (a b : Nat) (h : a ≤ b) (hb : b ≤ s.size) : (s.extract a b).size = b - a := by
  simp; omega
def part (s : ByteArray) (a : Int) (n : Nat) : List UInt8 := (s.data.toList.drop a.toNat).take n
theorem part_extract (s : ByteArray) (a : Int) (n : Nat) (h0 : 0 ≤ a) : (s.extract a.toNat (a + n).toNat).data.toList = part s a n := by
  rw [Lib.extract_data, part]
  congr 1
  omega
theorem part_length (s : ByteArray) (a : Int) (n : Nat) (h0 : 0 ≤ a) (h : a + n ≤ s.size) : (part s a n).length = n := by
  rw [part, List.length_take, List.length_drop, len_data]
  omega
theorem adv_snoc (l : List UInt8) (b : UInt8) : ∀ p, adv (l ++ [b]) p = if b = 10 then ((adv l p).1 + 1, 0) else ((adv l p).1, (adv l p).2 + 1) := by
  induction l with
  | nil => intro p; simp [adv]
  | cons x l ih => intro p; simp only [List.cons_append, adv, ih]
theorem adv_nonneg (l : List UInt8) : ∀ p : Int × Int, 0 ≤ p.1 → 0 ≤ p.2 → 0 ≤ (adv l p).1 ∧ 0 ≤ (adv l p).2 ∧ (adv l p).1 ≤ p.1 + l.length ∧ (adv l p).2 ≤ p.2 + l.length := by
  induction l with
  | nil => intro p h1 h2; simp [adv, h1, h2]
  | cons x l ih =>
    intro p h1 h2
    simp only [adv, List.length_cons]
    split
    · have := ih (p.1 + 1, 0) (by simp; omega) (by simp)
      simp only at this; omega
    · have := ih (p.1, p.2 + 1) (by simp; omega) (by simp; omega)
      simp only at this; omega
set_option maxRecDepth 100000 in
set_option maxHeartbeats 4000000 in
theorem pass_any (g : Nat) (at_ : Int) (n : Nat) (line col : Int) (s : ByteArray) (w : World) (hs : s.size ≤ 140737488351232) (h0 : 0 ≤ at_) (han : at_ + n ≤ s.size)
    (hl0 : 0 ≤ line) (hl1 : line ≤ 140737488351232) (hc0 : 0 ≤ col) (hc1 : col ≤ 140737488351232) (hsrc : Src w g at_ line col s) :
    Calls Tryz.prog 65 #[.pointer (some ⟨g, 0, none⟩), .int .i64 n] w fun e w' => e = .returned (.tuple #[]) ∧ Keep (· = g) w w' ∧ Src w' g (at_ + n) (adv (part s at_ n) (line, col)).1 (adv (part s at_ n) (line, col)).2 s := by
  have c0 : w.cell? ⟨g, 0, none⟩ = some (.int .i64 at_) := cell_of hsrc 0
  have c3 : w.cell? ⟨g, 3, none⟩ = some (.string s) := cell_of hsrc 3
  have hxl := part_extract s at_ n h0
  have hpl := part_length s at_ n h0 han
  have hxz := extract_size s at_.toNat (at_ + n).toNat (by omega) (by omega)
  have hcv := Lib.run_convert_string_bytes (P := Tryz.prog) w.drew 9 24 5 (s.extract at_.toNat (at_ + n).toNat) Tryz.underlying9 Tryz.underlying24 Tryz.underlying5
  have hnew := Lib.bytesWorld_cell w.drew 5 (s.extract at_.toNat (at_ + n).toNat)
  have hold := Lib.bytesWorld_at_old w.drew 5 (s.extract at_.toNat (at_ + n).toNat)
  have hsz := Lib.bytesWorld_size w.drew 5 (s.extract at_.toNat (at_ + n).toNat)
  have hkp : Keep (· = g) w (Lib.bytesWorld w.drew 5 (s.extract at_.toNat (at_ + n).toNat)) := ⟨rfl, rfl, rfl, by rw [hsz]; exact Nat.le_succ _, fun k hk _ => hold k hk⟩
  rw [hxz] at hcv hnew
  rw [hxl] at hnew
  have hgl : g < w.heap.size := heap_lt hsrc
  have hsrc1 : Src (Lib.bytesWorld w.drew 5 (s.extract at_.toNat (at_ + n).toNat)) g at_ line col s := (hold g hgl).trans hsrc
  generalize Lib.bytesWorld w.drew 5 (s.extract at_.toNat (at_ + n).toNat) = W1 at hcv hnew hkp hsz hsrc1
  generalize grownCap w.drew ((at_ + n).toNat - at_.toNat) 0 5 = cap at hcv
  rw [show w.drew.heap.size = w.heap.size from rfl] at hcv hnew hsz
  rw [show (at_ + n).toNat - at_.toNat = n by omega] at hcv hnew
  clear hxl hxz hold
  generalize hl : part s at_ n = l at hnew hpl ⊢
  have HL := Aside0.mk hl; clear hl
  have HPL := Aside0.mk hpl; clear hpl
  have HN := Aside0.mk hnew; clear hnew
  have HK := Aside0.mk hkp; clear hkp
  have HS := Aside0.mk hsrc; clear hsrc
  have HS1 := Aside0.mk hsrc1; clear hsrc1
  have HZ := Aside0.mk hsz; clear hsz
  go_enter Tryz.func65, Tryz.ntmps65
  go_wp2
  go_region
  all_goals go_wp2
  go_loopw [25] (fun t25 wr => ∃ k : Nat, k ≤ n ∧ t25 = .int .i64 k ∧ Aside0 (Src wr g at_ (adv (l.take k) (line, col)).1 (adv (l.take k) (line, col)).2 s ∧ Keep (· = g) W1 wr)) (fun t25 _ => n - (intOf t25).toNat)
  case atStart => exact ⟨0, by omega, rfl, ⟨HS1.out, Keep.refl _ _⟩⟩
  case round =>
    clear c0 c3 hcv HS1
    obtain ⟨k, hk, rfl, ⟨hs1, hk1⟩⟩ := hrel
    obtain ⟨q0, q1, q2, q3⟩ := adv_nonneg (l.take k) (line, col) hl0 hc0
    have hlk : (l.take k).length ≤ n := by rw [List.length_take]; omega
    have hsn : ∀ b, k < n → l[k]?.getD 0 = b → l.take (k + 1) = l.take k ++ [b] := fun b hb e => by
      have hl : k < l.length := by have := HPL.out; omega
      rw [List.take_succ_eq_append_getElem hl, ← e]
      simp [hl]
    simp only at q2 q3
    by_cases hlt : k < n
    · have hck : wr.cell? ⟨w.heap.size, k, none⟩ = some (.int .u8 (l.getD k 0).toNat) := by
        have hb : wr.heap[w.heap.size]? = W1.heap[w.heap.size]? := hk1.block _ (by have := HZ.out; omega) (by omega)
        rw [World.cell?_of_block (w := W1) hb]
        exact HN.out k hlt
      have hsn1 := fun b => hsn b hlt
      generalize hb : l.getD k 0 = b at hck
      have hsn2 := hsn1 b (by rw [← hb]; simp)
      have hsrc1 : wr.cell? ⟨g, 1, none⟩ = some (.int .i64 (adv (l.take k) (line, col)).1) := cell_of hs1 1
      have hsrc2 : wr.cell? ⟨g, 2, none⟩ = some (.int .i64 (adv (l.take k) (line, col)).2) := cell_of hs1 2
      have hf := fun i => free_of hs1 i
      have hsx := adv_snoc (l.take k) b (line, col)
      rw [← hsn2] at hsx
      clear hsn1 hsn2 hsn hb
      generalize (adv (l.take k) (line, col)).1 = li at *
      generalize (adv (l.take k) (line, col)).2 = co at *
      have q2' : li ≤ 281474976710656 := by omega
      have q3' : co ≤ 281474976710656 := by omega
      clear q2 q3
      generalize hnx : adv (l.take (k + 1)) (line, col) = nx at *
      have HNX := Aside0.mk hnx; clear hnx
      have HS1 := Aside0.mk hs1; clear hs1
      have HK1 := Aside0.mk hk1; clear hk1 hlk
      by_cases h10 : b = 10
      · subst h10
        rw [if_pos rfl] at hsx
        have HX := Aside0.mk hsx; clear hsx
        go_wp2
        go_region
        all_goals go_wp2
        go_roundw
        case rel =>
          refine ⟨k + 1, by omega, by go_num, ⟨?_, ?_⟩⟩
          · rw [HNX.out, HX.out]
            exact src_drew (src_set2 (src_set1 (src_set2 HS1.out _) _) _)
          · exact (((HK1.out.setCell (.inl rfl) _).setCell (.inl rfl) _).setCell (.inl rfl) _).drew
        case measure => simp [intOf]; omega
      · rw [if_neg h10] at hsx
        have HX := Aside0.mk hsx; clear hsx
        have hb10 : ((b.toNat : Int) == 10) = false := by
          rw [beq_eq_false_iff_ne]
          intro h
          exact h10 (UInt8.toNat.inj (by have : b.toNat = 10 := by omega
                                         exact this))
        clear h10
        go_wp2
        go_region
        all_goals go_wp2
        go_roundw
        case rel =>
          refine ⟨k + 1, by omega, by go_num, ⟨?_, ?_⟩⟩
          · rw [HNX.out, HX.out]
            exact src_drew (src_set2 HS1.out _)
          · exact (HK1.out.setCell (.inl rfl) _).drew
        case measure => simp [intOf]; omega
    · obtain rfl : k = n := by omega
      rw [List.take_of_length_le (by have := HPL.out; omega)] at hs1
      have hc0 : wr.cell? ⟨g, 0, none⟩ = some (.int .i64 at_) := cell_of hs1 0
      have hf := fun i => free_of hs1 i
      have HS1 := Aside0.mk hs1; clear hs1
      have HK1 := Aside0.mk hk1; clear hk1 hlk hsn
      go_wp2
      go_end0
      exact ⟨rfl, (HK.out.trans HK1.out).setCell (.inl rfl) _, src_set0 HS1.out _⟩
def posOf (s : ByteArray) (a : Int) : Int × Int := adv (s.data.toList.take a.toNat) (0, 0)
def SrcAt (w : World) (g : Nat) (a : Int) (s : ByteArray) : Prop := Src w g a (posOf s a).1 (posOf s a).2 s
theorem adv_append (l m : List UInt8) : ∀ p, adv (l ++ m) p = adv m (adv l p) := by
  induction l with
  | nil => intro p; rfl
  | cons x l ih => intro p; simp only [List.cons_append, adv, ih]
theorem posOf_add (s : ByteArray) (a : Int) (n : Nat) (h0 : 0 ≤ a) : adv (part s a n) (posOf s a) = posOf s (a + n) := by
  unfold posOf part
  rw [← adv_append, show (a + n).toNat = a.toNat + n by omega, List.take_add]
theorem posOf_le (s : ByteArray) (a : Int) : 0 ≤ (posOf s a).1 ∧ 0 ≤ (posOf s a).2 ∧ (posOf s a).1 ≤ s.size ∧ (posOf s a).2 ≤ s.size := by
  have h := adv_nonneg (s.data.toList.take a.toNat) (0, 0) (by simp) (by simp)
  have h2 : (s.data.toList.take a.toNat).length ≤ s.size := by rw [List.length_take, len_data]; omega
  unfold posOf
  simp only at h
  omega
theorem pass_at (g : Nat) (a : Int) (n : Nat) (s : ByteArray) (w : World) (hs : s.size ≤ 140737488351232) (h0 : 0 ≤ a) (han : a + n ≤ s.size) (hsrc : SrcAt w g a s) :
    Calls Tryz.prog 65 #[.pointer (some ⟨g, 0, none⟩), .int .i64 n] w fun e w' => e = .returned (.tuple #[]) ∧ Keep (· = g) w w' ∧ SrcAt w' g (a + n) s := by
  obtain ⟨h1, h2, h3, h4⟩ := posOf_le s a
  refine (pass_any g a n _ _ s w hs h0 han h1 (by omega) h2 (by omega) hsrc).mono ?_
  rintro e w' ⟨he, hk, hsr⟩
  refine ⟨he, hk, ?_⟩
  have e : ((posOf s a).1, (posOf s a).2) = posOf s a := rfl
  rw [e, posOf_add s a n h0] at hsr
  exact hsr
end Go.Proofs.YtfnhjdehlikbaaaGreatDoor.Lx
namespace Go.Proofs.YtfnhjdehlikbaaaGreatDoor.Lx
open Go.RowKit Go.Proofs.YtfnhjdehlikbaaaGreatDoorW.PrintWords
def dash (s : ByteArray) (a : Int) : Bool := decide (a + 1 < (s.size : Int)) && (bt s a == 45 && bt s (a + 1) == 45)
def layL (s : ByteArray) : Nat → Int → Int
  | 0, a => a
  | f + 1, a =>
    if a < s.size then
      if bt s a = 32 ∨ bt s a = 10 then layL s f (a + 1)
      else if dash s a = true then layL s f (a + (run (fun c => c != 10) s a.toNat : Nat))
      else a
    else a
def lay (s : ByteArray) (a : Int) : Int := layL s (s.size + 1) a
theorem drop_extract (s : ByteArray) (a : Nat) : (s.extract a s.size).data.toList = s.data.toList.drop a := Lib.extract_to_end s a
theorem run_extract (p : Int → Bool) (s : ByteArray) (a : Nat) : run p (s.extract a s.size) 0 = run p s a := by
  unfold run
  rw [drop_extract, List.drop_zero]
theorem bt_list (s : ByteArray) (i : Int) (h0 : 0 ≤ i) : bt s i = ((s.data.toList[i.toNat]?).getD 0).toNat := by
  unfold bt
  split
  · rename_i h
    have h' : i.toNat < s.data.toList.length := by rw [len_data]; exact h
    rw [List.getElem?_eq_getElem h']
    rfl
  · rename_i h
    rw [List.getElem?_eq_none (by rw [len_data]; omega)]
    rfl
theorem dash_prefix (s : ByteArray) (a : Int) (h0 : 0 ≤ a) (h : a < s.size) : hasPrefix (s.extract a.toNat s.size) ⟨#[45, 45]⟩ = dash s a := by
  unfold hasPrefix dash
  rw [drop_extract, bt_list s a h0, bt_list s (a + 1) (by omega)]
  have hl := len_data s
  have e1 : (a + 1).toNat = a.toNat + 1 := by omega
  have ha : a.toNat < s.data.toList.length := by omega
  rw [e1, List.drop_eq_getElem_cons ha]
  by_cases h2 : a + 1 < s.size
  · have ha2 : a.toNat + 1 < s.data.toList.length := by omega
    rw [List.drop_eq_getElem_cons ha2, List.getElem?_eq_getElem ha, List.getElem?_eq_getElem ha2, decide_eq_true h2]
    have hz : ∀ x : UInt8, ((45 : UInt8) == x) = (((x.toNat : Nat) : Int) == 45) := by
      intro x
      rw [Bool.eq_iff_iff, beq_iff_eq, beq_iff_eq]
      constructor
      · rintro rfl; rfl
      · intro h
        exact UInt8.toNat.inj (by have : x.toNat = 45 := by omega
                                  exact this.symm)
    simp [List.isPrefixOf, hz]
  · rw [List.drop_eq_nil_of_le (by omega), decide_eq_false h2]
    simp [List.isPrefixOf]
theorem bt_extract (s : ByteArray) (b : Int) (h0 : 0 ≤ b) : bt (s.extract b.toNat s.size) 0 = bt s b := by
  rw [bt_list _ 0 (by omega), bt_list s b h0, drop_extract]
  simp
theorem dash_run (s : ByteArray) (a : Int) (h0 : 0 ≤ a) (hd : dash s a = true) : 1 ≤ run (fun c => c != 10) s a.toNat := by
  simp [dash] at hd
  obtain ⟨h1, h2, h3⟩ := hd
  have hlt : a.toNat + 0 < s.size := by omega
  have := (run_step (fun c => c != 10) s a.toNat 0 hlt (Nat.zero_le _)).1 (by
    have e := bt_get s a (by omega)
    simp only [Nat.add_zero]
    rw [e, h2]; rfl)
  omega
theorem pass_one (g : Nat) (a : Int) (s : ByteArray) (w : World) (hs : s.size ≤ 140737488351232) (h0 : 0 ≤ a) (han : a + 1 ≤ s.size) (hsrc : SrcAt w g a s) :
    Calls Tryz.prog 65 #[.pointer (some ⟨g, 0, none⟩), .int .i64 1] w fun e w' => e = .returned (.tuple #[]) ∧ Keep (· = g) w w' ∧ SrcAt w' g (a + 1) s :=
  pass_at g a 1 s w hs h0 han hsrc
set_option maxRecDepth 100000 in
set_option maxHeartbeats 4000000 in
theorem layout_at (g : Nat) (a : Int) (s : ByteArray) (w : World) (hs : s.size ≤ 140737488351232) (h0 : 0 ≤ a) (han : a ≤ s.size) (hsrc : SrcAt w g a s) :
    Calls Tryz.prog 98 #[.pointer (some ⟨g, 0, none⟩)] w fun e w' => e = .returned (.tuple #[]) ∧ Keep (· = g) w w' ∧ SrcAt w' g (lay s a) s ∧ 0 ≤ lay s a ∧ lay s a ≤ s.size := by
  go_enter Tryz.func98, Tryz.ntmps98
  go_wp2
  go_loopg [] (s.size + 1) (fun f wr => ∃ b : Int, 0 ≤ b ∧ b ≤ s.size ∧ Aside0 ((s.size : Int) < b + f ∧ SrcAt wr g b s ∧ Keep (· = g) w wr ∧ layL s f b = lay s a))
  case atStart => exact ⟨a, h0, han, ⟨by omega, hsrc, Keep.refl _ _, rfl⟩⟩
  case round =>
    clear hsrc
    obtain ⟨b, hb0, hb1, ⟨hf, hsr, hk, hl⟩⟩ := hrel
    cases gk with
    | zero => exact absurd hf (by omega)
    | succ f =>
      have c0 : wr.cell? ⟨g, 0, none⟩ = some (.int .i64 b) := cell_of hsr 0
      have c3 : wr.cell? ⟨g, 3, none⟩ = some (.string s) := cell_of hsr 3
      simp only [layL] at hl
      have HS := Aside0.mk hsr; clear hsr
      have HSW : Aside0 (∀ n, SrcAt (wr.drewN n) g b s) := ⟨fun n => HS.out⟩
      have HK := Aside0.mk hk; clear hk
      have HF := Aside0.mk hf; clear hf
      by_cases hlt : b < s.size
      · rw [if_pos hlt] at hl
        have hlb : decide (b < (s.size : Int)) = true := decide_eq_true hlt
        have hz : (s.extract b.toNat s.size).size = s.size - b.toNat := extract_size s _ _ (by omega) (Nat.le_refl _)
        have hx := bt_extract s b hb0
        have hz0 : 0 < (s.extract b.toNat s.size).size := by omega
        rw [← bt_get _ 0 hz0] at hx
        replace hx : (((s.extract b.toNat s.size)[0]'hz0).toNat : Int) = bt s b := hx
        by_cases h32 : bt s b = 32
        · rw [if_pos (.inl h32)] at hl
          rw [h32] at hx
          have HL := Aside0.mk hl; clear hl h32
          go_wp2
          go_quiet (fail)
          go_wp2
          go_quiet (fail)
          go_wp2_with (go_at_call 65; (with_reducible refine (pass_one g b s _ hs hb0 (by omega) (HSW.out _)).mono ?_); rintro e w1 ⟨rfl, hk1, hs1⟩; have HK1 := Aside0.mk hk1; clear hk1; have HS1 := Aside0.mk hs1; clear hs1)
          go_roundg f
          case measure => omega
          case rel => exact ⟨b + 1, by omega, by omega, ⟨by have := HF.out; omega, HS1.out, (HK.out.drewN _).trans HK1.out, HL.out⟩⟩
        · by_cases h10 : bt s b = 10
          · rw [if_pos (.inr h10)] at hl
            rw [h10] at hx
            have HL := Aside0.mk hl; clear hl h32 h10
            go_wp2
            go_quiet (fail)
            go_wp2
            go_quiet (fail)
            go_wp2_with (go_at_call 65; (with_reducible refine (pass_one g b s _ hs hb0 (by omega) (HSW.out _)).mono ?_); rintro e w1 ⟨rfl, hk1, hs1⟩; have HK1 := Aside0.mk hk1; clear hk1; have HS1 := Aside0.mk hs1; clear hs1)
            go_roundg f
            case measure => omega
            case rel => exact ⟨b + 1, by omega, by omega, ⟨by have := HF.out; omega, HS1.out, (HK.out.drewN _).trans HK1.out, HL.out⟩⟩
          · rw [if_neg (by simp [h32, h10])] at hl
            have hb32 : (bt s b == 32) = false := beq_eq_false_iff_ne.2 h32
            have hb10 : (bt s b == 10) = false := beq_eq_false_iff_ne.2 h10
            have hpre := hasPrefix_any (s.extract b.toNat s.size) ⟨#[45, 45]⟩
            have hd := dash_prefix s b hb0 hlt
            have HP := Aside0.mk (fun W => hpre W (by omega) (by decide)); clear hpre h32 h10
            generalize hC : bt s b = C at hx hb32 hb10
            have HC := Aside0.mk hC; clear hC
            cases hdd : dash s b with
            | true =>
              rw [hdd] at hd
              have hr1 := dash_run s b hb0 hdd
              have hr2 := run_le (fun c => c != 10) s b.toNat (by omega)
              have hrx := run_extract (fun c => c != 10) s b.toNat
              rw [if_pos hdd] at hl
              have hrl := fun W => run_line (s.extract b.toNat s.size) 0 W (by omega) (by omega) (by omega)
              rw [show (0 : Int).toNat = 0 from rfl, hrx] at hrl
              generalize run (fun c => c != 10) s b.toNat = n at hr1 hr2 hrl hl
              have HL := Aside0.mk hl; clear hl hdd
              have HRL := Aside0.mk hrl; clear hrl hrx
              have HD := Aside0.mk hd; clear hd
              go_wp2
              go_quiet (fail)
              go_wp2
              go_quiet (fail)
              go_wp2_with (first | (go_at_call 65; (with_reducible refine (pass_at g b n s _ hs hb0 (by omega) (HSW.out _)).mono ?_); rintro e w1 ⟨rfl, hk1, hs1⟩; have HK1 := Aside0.mk hk1; clear hk1; have HS1 := Aside0.mk hs1; clear hs1) | (go_at_call 35; (with_reducible refine (HP.out _).mono ?_); rintro e w1 ⟨rfl, rfl⟩; rw [HD.out]) | (go_at_call 120; (with_reducible refine (HRL.out _).mono ?_); rintro e w1 ⟨rfl, rfl⟩))
              go_roundg f
              case measure => omega
              case rel => exact ⟨b + n, by omega, by omega, ⟨by have := HF.out; omega, HS1.out, (HK.out.drewN _).trans HK1.out, HL.out⟩⟩
            | false =>
              rw [hdd] at hd
              rw [if_neg (by simp [hdd])] at hl
              have HL := Aside0.mk hl; clear hl hdd
              have HD := Aside0.mk hd; clear hd
              go_wp2
              go_quiet (fail)
              go_wp2
              go_quiet (fail)
              go_wp2_with (go_at_call 35; (with_reducible refine (HP.out _).mono ?_); rintro e w1 ⟨rfl, rfl⟩; rw [HD.out])
              refine bodyPost_ret (results_none rfl _ _ _) rfl ?_
              rw [← HL.out]
              exact ⟨rfl, HK.out.drewN _, HS.out, hb0, hb1⟩
      · rw [if_neg hlt] at hl
        have hlb : decide (b < (s.size : Int)) = false := decide_eq_false hlt
        have HL := Aside0.mk hl; clear hl
        go_wp2
        go_quiet (fail)
        go_wp2
        go_end0
        rw [← HL.out]
        exact ⟨rfl, HK.out.drewN _, HS.out, hb0, hb1⟩
end Go.Proofs.YtfnhjdehlikbaaaGreatDoor.Lx
namespace Go.Proofs.YtfnhjdehlikbaaaGreatDoor.Lx
open Go.RowKit Go.Proofs.YtfnhjdehlikbaaaGreatDoorW.PrintWords
structure Tok where
  kind : Int
  num : Int
  text : ByteArray
  at_ : Int
  line : Int
  col : Int
def Tok.cells (t : Tok) : Array Value := #[.int .i64 t.kind, .int .i64 t.num, .string t.text, .int .i64 t.at_, .int .i64 t.line, .int .i64 t.col]
def isKw (s : ByteArray) : Bool := kws.any (s == ·)
def nextWord (s : ByteArray) (a : Int) : Tok × Int :=
  let text := s.extract a.toNat (a + (words s a).1).toNat
  (⟨if isKw text = true then 4 else 1, 0, text, a, (posOf s a).1, (posOf s a).2⟩, (words s a).2)
theorem wordsL_le (s : ByteArray) (a : Int) (h0 : 0 ≤ a) : ∀ (f : Nat) (n bad many : Int), 0 ≤ n → a + n ≤ s.size → -1 ≤ bad → bad ≤ s.size + 16 → 0 ≤ (wordsL s a f n bad many).1 ∧ a + (wordsL s a f n bad many).1 ≤ s.size ∧ -1 ≤ (wordsL s a f n bad many).2 ∧ (wordsL s a f n bad many).2 ≤ s.size + 16 := by
  intro f
  induction f with
  | zero => intro n bad many h1 h2 h3 h4; exact ⟨h1, h2, h3, h4⟩
  | succ f ih =>
    intro n bad many h1 h2 h3 h4
    have hr := run_le isLetter s (a + n).toNat (by omega)
    simp only [wordsL]
    generalize (run isLetter s (a + n).toNat) = k at hr ⊢
    split
    · rename_i hm
      simp [more] at hm
      refine ih _ _ _ (by omega) (by omega) ?_ ?_ <;> (repeat' split) <;> omega
    · refine ⟨by simp only; omega, by simp only; omega, ?_, ?_⟩ <;> (simp only; repeat' split) <;> omega
theorem words_le (s : ByteArray) (a : Int) (h0 : 0 ≤ a) (h : a ≤ s.size) : 0 ≤ (words s a).1 ∧ a + (words s a).1 ≤ s.size ∧ -1 ≤ (words s a).2 ∧ (words s a).2 ≤ s.size + 16 :=
  wordsL_le s a h0 _ 0 (-1) 1 (by omega) (by omega) (by omega) (by omega)
def tok0 (k a line col : Int) : Array Value := #[.int .i64 k, .int .i64 0, .string ⟨#[]⟩, .int .i64 a, .int .i64 line, .int .i64 col]
structure At54 (w : World) (g : Nat) (a line col : Int) (s : ByteArray) (tok : Array Value) (W : World) : Prop where
  res : W.heap[w.heap.size]? = some (.cells #[.int .i64 0, .int .i64 0, .string ⟨#[]⟩, .int .i64 0, .int .i64 0, .int .i64 0] 54)
  tok : W.heap[w.heap.size + 1]? = some (.cells tok 54)
  src : Src W g a line col s
  below : Below w.heap.size w W
theorem At54.step {w : World} {g : Nat} {a line col : Int} {s : ByteArray} {tok : Array Value} {W W2 : World} (h : At54 w g a line col s tok W) (hb : Below W.heap.size W W2) : At54 w g a line col s tok W2 :=
  ⟨(hb.block _ (heap_lt h.res)).trans h.res, (hb.block _ (heap_lt h.tok)).trans h.tok, (hb.block _ (heap_lt h.src)).trans h.src, h.below.trans (hb.mono h.below.size)⟩
theorem At54.drew {w : World} {g : Nat} {a line col : Int} {s : ByteArray} {tok : Array Value} {W : World} (h : At54 w g a line col s tok W) : At54 w g a line col s tok W.drew := h.step (Below.refl _ _).drew
theorem At54.drewN {w : World} {g : Nat} {a line col : Int} {s : ByteArray} {tok : Array Value} {W : World} (h : At54 w g a line col s tok W) (n : Nat) : At54 w g a line col s tok (W.drewN n) := h.step ⟨rfl, rfl, rfl, Nat.le_refl _, fun _ _ => rfl⟩
theorem At54.cells {w : World} {g : Nat} {a line col : Int} {s : ByteArray} {tok : Array Value} {W : World} (h : At54 w g a line col s tok W) : W.cell? ⟨g, 0, none⟩ = some (.int .i64 a) ∧ W.cell? ⟨g, 3, none⟩ = some (.string s) :=
  ⟨cell_of h.src 0, cell_of h.src 3⟩
theorem set6 {W : World} {b : Nat} {x0 x1 x2 x3 x4 x5 : Value} (h : W.heap[b]? = some (.cells #[x0, x1, x2, x3, x4, x5] 54)) (v0 v1 v2 v3 v4 v5 : Value) :
    ((((((W.setCell ⟨b, 0, none⟩ v0).setCell ⟨b, 1, none⟩ v1).setCell ⟨b, 2, none⟩ v2).setCell ⟨b, 3, none⟩ v3).setCell ⟨b, 4, none⟩ v4).setCell ⟨b, 5, none⟩ v5).heap[b]? = some (.cells #[v0, v1, v2, v3, v4, v5] 54) :=
  heap_set (heap_set (heap_set (heap_set (heap_set (heap_set h 0 v0) 1 v1) 2 v2) 3 v3) 4 v4) 5 v5
theorem below_set6 {B b : Nat} {w W : World} (h : Below B w W) (hb : B ≤ b) (v0 v1 v2 v3 v4 v5 : Value) :
    Below B w ((((((W.setCell ⟨b, 0, none⟩ v0).setCell ⟨b, 1, none⟩ v1).setCell ⟨b, 2, none⟩ v2).setCell ⟨b, 3, none⟩ v3).setCell ⟨b, 4, none⟩ v4).setCell ⟨b, 5, none⟩ v5) :=
  (((((h.setCell (p := ⟨b, 0, none⟩) hb _).setCell (p := ⟨b, 1, none⟩) hb _).setCell (p := ⟨b, 2, none⟩) hb _).setCell (p := ⟨b, 3, none⟩) hb _).setCell (p := ⟨b, 4, none⟩) hb _).setCell (p := ⟨b, 5, none⟩) hb _
theorem drew_heap {W : World} {k : Nat} {o : Obj} (h : W.heap[k]? = some o) : W.drew.heap[k]? = some o := h
theorem size54 (v0 v1 v2 v3 v4 v5 : Value) : (Tryz.prog.info? 54).map (·.size) = some (#[v0, v1, v2, v3, v4, v5] : Array Value).size := by
  have h : (Tryz.prog.info? 54).map (·.size) = some 6 := by kernel_rfl
  rw [h]; rfl
theorem quiet_same {P : Program} {f : FuncId} {args : Array Value} {w : World} {n : Nat} {v : Value}
    (h : Calls P f args (w.drewN n) fun e w' => e = .returned v ∧ w.drewN n = w') : Calls P f args (w.drewN n) fun e w'' => e = .returned v ∧ ∃ m, w'' = w.drewN m :=
  h.mono fun _ _ ⟨he, hm⟩ => ⟨he, n, hm.symm⟩
set_option maxRecDepth 100000 in
set_option maxHeartbeats 4000000 in
theorem next_word (g : Nat) (a : Int) (s : ByteArray) (w : World) (hs : s.size ≤ 140737488351232) (h0 : 0 ≤ a) (han : a ≤ s.size) (hsrc : SrcAt w g a s) :
    Calls Tryz.prog 99 #[.pointer (some ⟨g, 0, none⟩), .int .i64 1] w fun e w' => e = .returned (.tuple #[.agg (nextWord s a).1.cells, .int .i64 (nextWord s a).2]) ∧ Below w.heap.size w w' := by
  have hw := words_any s a
  obtain ⟨b1, b2, b3, b4⟩ := words_le s a h0 han
  obtain ⟨R, hR⟩ : ∃ R, nextWord s a = R := ⟨_, rfl⟩
  rw [hR]
  unfold nextWord at hR
  generalize words s a = P at hw b1 b2 b3 b4 hR
  obtain ⟨n, bad⟩ := P
  simp only at hw b1 b2 b3 b4 hR
  obtain ⟨p1, p2, p3, p4⟩ := posOf_le s a
  unfold SrcAt at hsrc
  generalize posOf s a = Q at hsrc p1 p2 p3 p4 hR
  obtain ⟨line, col⟩ := Q
  simp only at hsrc p1 p2 p3 p4 hR
  have HRR := Aside0.mk hR; clear hR
  have c0 : w.cell? ⟨g, 0, none⟩ = some (.int .i64 a) := cell_of hsrc 0
  have c1 : w.cell? ⟨g, 1, none⟩ = some (.int .i64 line) := cell_of hsrc 1
  have c2 : w.cell? ⟨g, 2, none⟩ = some (.int .i64 col) := cell_of hsrc 2
  have c3 : w.cell? ⟨g, 3, none⟩ = some (.string s) := cell_of hsrc 3
  have hgl := heap_lt hsrc
  have HW := Aside0.mk (fun W => hw W hs h0 han); clear hw
  have HS := Aside0.mk hsrc; clear hsrc
  go_enter Tryz.func99, Tryz.ntmps99
  go_wp2
  go_cut [6] (fun t6 wc => t6 = .pointer (some ⟨w.heap.size + 1, 0, none⟩) ∧ Aside0 (wc.heap[w.heap.size]? = some (.cells #[.int .i64 0, .int .i64 0, .string ⟨#[]⟩, .int .i64 0, .int .i64 0, .int .i64 0] 54) ∧ wc.heap[w.heap.size + 1]? = some (.cells (tok0 1 a line col) 54) ∧ Src wc g a line col s ∧ Below w.heap.size w wc))
  case first =>
    go_region
    go_wp2
    go_meet
    case rel =>
      refine ⟨rfl, ⟨?_, ?_, ?_, ?_⟩⟩
      · exact heap_alloc (heap_new w _) _
      · exact heap_new' (w.alloc _) _ _ (by simp)
      · exact heap_alloc (heap_alloc HS.out _) _
      · exact (((Below.refl _ _).alloc (Nat.le_refl _) _).alloc (by simp) _).drew
  case rest =>
    obtain ⟨rfl, ⟨hR, hT, hS, hB⟩⟩ := hcut
    clear c0 c1 c2 c3
    have d0 : wc.cell? ⟨g, 0, none⟩ = some (.int .i64 a) := cell_of hS 0
    have d3 : wc.cell? ⟨g, 3, none⟩ = some (.string s) := cell_of hS 3
    have HR := Aside0.mk hR; clear hR
    have HT := Aside0.mk hT; clear hT
    have HS1 := Aside0.mk hS; clear hS
    have HB := Aside0.mk hB; clear hB
    go_wp2
    go_quiet ((go_at_call 86; exact quiet_same (HW.out _)))
    go_wp2
    obtain ⟨W1, hW1⟩ : ∃ W1, wc.drewN nq = W1 := ⟨_, rfl⟩
    rw [hW1]
    have hG : At54 w g a line col s (tok0 1 a line col) W1 := by
      rw [← hW1]; exact ⟨HR.out, HT.out, HS1.out, Below.trans HB.out ⟨rfl, rfl, rfl, Nat.le_refl _, fun _ _ => rfl⟩⟩
    have f0 : W1.cell? ⟨g, 0, none⟩ = some (.int .i64 a) := cell_of hG.src 0
    have f3 : W1.cell? ⟨g, 3, none⟩ = some (.string s) := cell_of hG.src 3
    have HG := Aside0.mk hG
    clear hG HS1 HT HR HB hW1 d0 d3 wc
    go_cut [62] (fun t62 wk => t62 = .bool (isKw (s.extract a.toNat (a + n).toNat)) ∧ Aside0 (At54 w g a line col s (tok0 1 a line col) wk))
    case first =>
      have hsum : IntKind.i64.wrap (a + n) = a + n := IntWalk.i64_in _ (by omega)
      have hle : a ≤ a + n := by omega
      have hge : 0 ≤ a + n := by omega
      have HG1 := Aside0.mk HG.out.drew
      go_region_held3 (fun W => W.cell? ⟨g, 0, none⟩ = some (.int .i64 a) ∧ W.cell? ⟨g, 3, none⟩ = some (.string s) ∧ Aside0 (At54 w g a line col s (tok0 1 a line col) W)) (go_keep) (first | (go_at_call 82; refine (keywords_any _).mono ?_; rintro e w2 ⟨rfl, hm, hb⟩; have hlk : (Instr.lookup 124 (.map (some W1.heap.size)) (.string (s.extract a.toNat (a + n).toNat)) false).run Tryz.prog w2 = .ok (.bool (isKw (s.extract a.toNat (a + n).toNat))) w2 := run_set_lookup _ hm; have hA : Aside0 (At54 w g a line col s (tok0 1 a line col) w2) := ⟨At54.step (Aside0.out (by assumption)) hb⟩; obtain ⟨k0, k3⟩ := hA.out.cells))
      go_wp2
      go_meet
      case rel => exact ⟨rfl, by assumption⟩
    case rest =>
      clear f0 f3 HG W1
      obtain ⟨rfl, HG⟩ := hcut
      have hne : g ≠ w.heap.size + 1 := by omega
      have hne2 : w.heap.size ≠ w.heap.size + 1 := by omega
      have hsum : IntKind.i64.wrap (a + n) = a + n := IntWalk.i64_in _ (by omega)
      have hle : a ≤ a + n := by omega
      have hge : 0 ≤ a + n := by omega
      have f0 : wc.cell? ⟨g, 0, none⟩ = some (.int .i64 a) := cell_of HG.out.src 0
      have f3 : wc.cell? ⟨g, 3, none⟩ = some (.string s) := cell_of HG.out.src 3
      have t0 : wc.cell? ⟨w.heap.size + 1, 0, none⟩ = some (.int .i64 1) := cell_of HG.out.tok 0
      have t1 : wc.cell? ⟨w.heap.size + 1, 1, none⟩ = some (.int .i64 0) := cell_of HG.out.tok 1
      have t2 : wc.cell? ⟨w.heap.size + 1, 2, none⟩ = some (.string ⟨#[]⟩) := cell_of HG.out.tok 2
      have t3 : wc.cell? ⟨w.heap.size + 1, 3, none⟩ = some (.int .i64 a) := cell_of HG.out.tok 3
      have t4 : wc.cell? ⟨w.heap.size + 1, 4, none⟩ = some (.int .i64 line) := cell_of HG.out.tok 4
      have t5 : wc.cell? ⟨w.heap.size + 1, 5, none⟩ = some (.int .i64 col) := cell_of HG.out.tok 5
      have tf := fun i => free_of HG.out.tok i
      have rf := fun i => free_of HG.out.res i
      have r0 : wc.cell? ⟨w.heap.size, 0, none⟩ = some (.int .i64 0) := cell_of HG.out.res 0
      have r1 : wc.cell? ⟨w.heap.size, 1, none⟩ = some (.int .i64 0) := cell_of HG.out.res 1
      have r2 : wc.cell? ⟨w.heap.size, 2, none⟩ = some (.string ⟨#[]⟩) := cell_of HG.out.res 2
      have r3 : wc.cell? ⟨w.heap.size, 3, none⟩ = some (.int .i64 0) := cell_of HG.out.res 3
      have r4 : wc.cell? ⟨w.heap.size, 4, none⟩ = some (.int .i64 0) := cell_of HG.out.res 4
      have r5 : wc.cell? ⟨w.heap.size, 5, none⟩ = some (.int .i64 0) := cell_of HG.out.res 5
      cases hkw : isKw (s.extract a.toNat (a + n).toNat) with
      | true =>
        have HKW := Aside0.mk hkw; clear hkw
        go_wp2
        go_region
        go_wp2
        refine bodyPost_ret (results_list (rs := [.cell 4 54, .tmp 5]) rfl (by simp) (.cell w.heap.size 54 _ (0, 0) _ rfl (drew_heap (set6 ((heap_set_other (by simp) _).trans ((heap_set_other (by simp) _).trans HG.out.res)) _ _ _ _ _ _)) Tryz.underlying54 rfl (size54 _ _ _ _ _ _) (.tmp .nil))) rfl ⟨?_, ?_⟩
        · rw [← HRR.out, HKW.out]; rfl
        · exact (below_set6 ((HG.out.below.setCell (Nat.le_succ _) _).setCell (Nat.le_succ _) _) (Nat.le_refl _) _ _ _ _ _ _).drew
      | false =>
        have HKW := Aside0.mk hkw; clear hkw
        go_wp2
        go_region
        go_wp2
        refine bodyPost_ret (results_list (rs := [.cell 4 54, .tmp 5]) rfl (by simp) (.cell w.heap.size 54 _ (0, 0) _ rfl (drew_heap (set6 ((heap_set_other (by simp) _).trans HG.out.res) _ _ _ _ _ _)) Tryz.underlying54 rfl (size54 _ _ _ _ _ _) (.tmp .nil))) rfl ⟨?_, ?_⟩
        · rw [← HRR.out, HKW.out]; rfl
        · exact (below_set6 (HG.out.below.setCell (Nat.le_succ _) _) (Nat.le_refl _) _ _ _ _ _ _).drew
end Go.Proofs.YtfnhjdehlikbaaaGreatDoor.Lx
namespace Go.Proofs.YtfnhjdehlikbaaaGreatDoor.Lx
open Go.RowKit Go.Proofs.YtfnhjdehlikbaaaGreatDoorW.PrintWords
def tokN (k num a line col : Int) : Array Value := #[.int .i64 k, .int .i64 num, .string ⟨#[]⟩, .int .i64 a, .int .i64 line, .int .i64 col]
theorem At54.set {w : World} {g : Nat} {a line col : Int} {s : ByteArray} {tok : Array Value} {W : World} (h : At54 w g a line col s tok W) (hg : g < w.heap.size) (i : Nat) (v : Value) :
    At54 w g a line col s (tok.setIfInBounds i v) (W.setCell ⟨w.heap.size + 1, i, none⟩ v) :=
  ⟨(heap_set_other (by simp) v).trans h.res, heap_set h.tok i v, (heap_set_other (by simp; omega) v).trans h.src, h.below.setCell (Nat.le_succ _) v⟩
def nextNum (s : ByteArray) (a : Int) : Tok × Int :=
  let n : Int := run isDigit s a.toNat
  let text := s.extract a.toNat (a + n).toNat
  (⟨2, number text, text, a, (posOf s a).1, (posOf s a).2⟩, if 1073741824 < number text then 0 else if 1 < n ∧ bt s a = 48 then 1 else -1)
theorem takeWhile_all {α : Type} (p : α → Bool) : ∀ (l : List α) (k : Nat), k < (l.takeWhile p).length → ∀ x, l[k]? = some x → p x = true := by
  intro l
  induction l with
  | nil => intro k h; simp at h
  | cons y l ih =>
    intro k h x hx
    cases hp : p y with
    | false => simp [hp] at h
    | true =>
      cases k with
      | zero => simp at hx; rw [← hx]; exact hp
      | succ k =>
        simp only [List.takeWhile_cons, hp, if_true, List.length_cons] at h
        exact ih k (by omega) x (by simpa using hx)
theorem digits_of_run (s : ByteArray) (a : Int) (h0 : 0 ≤ a) (h : a ≤ s.size) : allDigits (s.extract a.toNat (a + (run isDigit s a.toNat : Int)).toNat) := by
  intro i hi
  have hr := run_le isDigit s a.toNat (by omega)
  have hsz := extract_size s a.toNat (a + (run isDigit s a.toNat : Int)).toNat (by omega) (by omega)
  have hi2 : i < run isDigit s a.toNat := by omega
  have hx := part_extract s a (run isDigit s a.toNat) h0
  have e : ((s.extract a.toNat (a + (run isDigit s a.toNat : Int)).toNat).data.toList)[i]? = some ((s.extract a.toNat (a + (run isDigit s a.toNat : Int)).toNat)[i]'hi) := by
    rw [List.getElem?_eq_getElem (by rw [len_data]; exact hi)]; rfl
  rw [hx] at e
  have e2 : (s.data.toList.drop a.toNat)[i]? = some ((s.extract a.toNat (a + (run isDigit s a.toNat : Int)).toNat)[i]'hi) := by
    rw [← e]; unfold part; rw [List.getElem?_take, if_pos hi2]
  exact takeWhile_all (fun b : UInt8 => isDigit (b.toNat : Int)) _ i hi2 _ e2
theorem numL_le : ∀ (l : List UInt8) (n : Int), 0 ≤ n → n ≤ 1073741824 → (∀ b ∈ l, 48 ≤ b.toNat ∧ b.toNat ≤ 57) → 0 ≤ numL l n ∧ numL l n ≤ 10737418250 := by
  intro l
  induction l with
  | nil => intro n h0 h1 _; exact ⟨h0, by simp [numL]; omega⟩
  | cons b l ih =>
    intro n h0 h1 hb
    have := hb b List.mem_cons_self
    simp only [numL]
    split
    · omega
    · exact ih _ (by omega) (by omega) (fun c hc => hb c (List.mem_cons_of_mem _ hc))
theorem number_le (s : ByteArray) (hd : allDigits s) : 0 ≤ number s ∧ number s ≤ 10737418250 := by
  refine numL_le _ 0 (by omega) (by omega) ?_
  intro b hb
  obtain ⟨i, hi, rfl⟩ := List.getElem_of_mem hb
  have := digit_range (hd i (by rw [len_data] at hi; exact hi))
  have e : s.data.toList[i] = s[i]'(by rw [len_data] at hi; exact hi) := rfl
  rw [e]
  omega
set_option maxRecDepth 100000 in
set_option maxHeartbeats 8000000 in
theorem next_num (g : Nat) (a : Int) (s : ByteArray) (w : World) (hs : s.size ≤ 140737488351232) (h0 : 0 ≤ a) (han : a < s.size) (hsrc : SrcAt w g a s) :
    Calls Tryz.prog 99 #[.pointer (some ⟨g, 0, none⟩), .int .i64 2] w fun e w' => e = .returned (.tuple #[.agg (nextNum s a).1.cells, .int .i64 (nextNum s a).2]) ∧ Below w.heap.size w w' := by
  have hrun := fun W => run_digit s a W hs h0 (by omega)
  have hr := run_le isDigit s a.toNat (by omega)
  have hdig := digits_of_run s a h0 (by omega)
  obtain ⟨nl0, nl1⟩ := number_le _ hdig
  obtain ⟨R, hR⟩ : ∃ R, nextNum s a = R := ⟨_, rfl⟩
  rw [hR]
  unfold nextNum at hR
  simp only at hR
  generalize run isDigit s a.toNat = n at hrun hr hdig hR nl0 nl1
  have hxz := extract_size s a.toNat (a + (n : Int)).toNat (by omega) (by omega)
  have hnum := fun W => number_any (s.extract a.toNat (a + (n : Int)).toNat) W (by omega) hdig
  clear hdig hxz
  obtain ⟨num, hnm⟩ : ∃ num, number (s.extract a.toNat (a + (n : Int)).toNat) = num := ⟨_, rfl⟩
  rw [hnm] at hnum hR nl0 nl1
  clear hnm
  obtain ⟨p1, p2, p3, p4⟩ := posOf_le s a
  unfold SrcAt at hsrc
  generalize posOf s a = Q at hsrc p1 p2 p3 p4 hR
  obtain ⟨line, col⟩ := Q
  simp only at hsrc p1 p2 p3 p4 hR
  have HRR := Aside0.mk hR; clear hR
  have c0 : w.cell? ⟨g, 0, none⟩ = some (.int .i64 a) := cell_of hsrc 0
  have c1 : w.cell? ⟨g, 1, none⟩ = some (.int .i64 line) := cell_of hsrc 1
  have c2 : w.cell? ⟨g, 2, none⟩ = some (.int .i64 col) := cell_of hsrc 2
  have c3 : w.cell? ⟨g, 3, none⟩ = some (.string s) := cell_of hsrc 3
  have hgl := heap_lt hsrc
  have HRN := Aside0.mk hrun; clear hrun
  have HNM := Aside0.mk hnum; clear hnum
  have HS := Aside0.mk hsrc; clear hsrc
  go_enter Tryz.func99, Tryz.ntmps99
  go_wp2
  go_cut [6] (fun t6 wc => t6 = .pointer (some ⟨w.heap.size + 1, 0, none⟩) ∧ Aside0 (At54 w g a line col s (tokN 2 0 a line col) wc))
  case first =>
    go_region
    go_wp2
    go_meet
    case rel =>
      refine ⟨rfl, ⟨?_, ?_, ?_, ?_⟩⟩
      · exact heap_alloc (heap_new w _) _
      · exact heap_new' (w.alloc _) _ _ (by simp)
      · exact heap_alloc (heap_alloc HS.out _) _
      · exact (((Below.refl _ _).alloc (Nat.le_refl _) _).alloc (by simp) _).drew
  case rest =>
    obtain ⟨rfl, HG⟩ := hcut
    clear c0 c1 c2 c3
    obtain ⟨d0, d3⟩ := HG.out.cells
    go_wp2
    go_quiet ((go_at_call 120; exact quiet_same (HRN.out _)))
    go_wp2
    have hG := HG.out.drewN nq
    clear HG
    generalize wc.drewN nq = W1 at hG
    obtain ⟨f0, f3⟩ := hG.cells
    have HG := Aside0.mk hG
    clear hG d0 d3 wc
    go_cut [] (fun wk => Aside0 (At54 w g a line col s (tokN 2 num a line col) wk))
    case first =>
      have hsum : IntKind.i64.wrap (a + n) = a + n := IntWalk.i64_in _ (by omega)
      have hle : a ≤ a + n := by omega
      have hge : 0 ≤ a + n := by omega
      have hub : a + n ≤ s.size := by omega
      have hcs : ∀ (W : World) (i k : Nat) (v : Value), (W.setCell ⟨w.heap.size + 1, i, none⟩ v).cell? ⟨g, k, none⟩ = W.cell? ⟨g, k, none⟩ := fun W i k v => World.cell?_of_block (w := W) (heap_set_other (by simp; omega) v)
      have HG1 := Aside0.mk HG.out.drew
      go_region_held3 (fun W => W.cell? ⟨g, 0, none⟩ = some (.int .i64 a) ∧ W.cell? ⟨g, 3, none⟩ = some (.string s)) (go_keep) (first | (go_at_call 134; refine (HNM.out _).mono ?_; rintro e w2 ⟨rfl, hb⟩; have hA : Aside0 (At54 w g a line col s (tokN 2 0 a line col) w2) := ⟨At54.step (Aside0.out (by assumption)) hb⟩; obtain ⟨k0, k3⟩ := hA.out.cells; have kc := cell_of hA.out.tok 1; have kf := free_of hA.out.tok 1))
      go_wp2
      go_meet
      case rel => exact ⟨(Aside0.out ‹Aside0 (At54 w g a line col s (tokN 2 0 a line col) w2)›).set hgl 1 _⟩
    case rest =>
      clear f0 f3 HG W1
      have HG := hcut
      clear hcut
      have hne : g ≠ w.heap.size + 1 := by omega
      have hne2 : w.heap.size ≠ w.heap.size + 1 := by omega
      have hsum : IntKind.i64.wrap (a + n) = a + n := IntWalk.i64_in _ (by omega)
      have hle : a ≤ a + n := by omega
      have hge : 0 ≤ a + n := by omega
      have hub : a + n ≤ s.size := by omega
      have f0 : wc.cell? ⟨g, 0, none⟩ = some (.int .i64 a) := cell_of HG.out.src 0
      have f3 : wc.cell? ⟨g, 3, none⟩ = some (.string s) := cell_of HG.out.src 3
      have t0 : wc.cell? ⟨w.heap.size + 1, 0, none⟩ = some (.int .i64 2) := cell_of HG.out.tok 0
      have t1 : wc.cell? ⟨w.heap.size + 1, 1, none⟩ = some (.int .i64 num) := cell_of HG.out.tok 1
      have t2 : wc.cell? ⟨w.heap.size + 1, 2, none⟩ = some (.string ⟨#[]⟩) := cell_of HG.out.tok 2
      have t3 : wc.cell? ⟨w.heap.size + 1, 3, none⟩ = some (.int .i64 a) := cell_of HG.out.tok 3
      have t4 : wc.cell? ⟨w.heap.size + 1, 4, none⟩ = some (.int .i64 line) := cell_of HG.out.tok 4
      have t5 : wc.cell? ⟨w.heap.size + 1, 5, none⟩ = some (.int .i64 col) := cell_of HG.out.tok 5
      have tf := fun i => free_of HG.out.tok i
      have rf := fun i => free_of HG.out.res i
      have r0 : wc.cell? ⟨w.heap.size, 0, none⟩ = some (.int .i64 0) := cell_of HG.out.res 0
      have r1 : wc.cell? ⟨w.heap.size, 1, none⟩ = some (.int .i64 0) := cell_of HG.out.res 1
      have r2 : wc.cell? ⟨w.heap.size, 2, none⟩ = some (.string ⟨#[]⟩) := cell_of HG.out.res 2
      have r3 : wc.cell? ⟨w.heap.size, 3, none⟩ = some (.int .i64 0) := cell_of HG.out.res 3
      have r4 : wc.cell? ⟨w.heap.size, 4, none⟩ = some (.int .i64 0) := cell_of HG.out.res 4
      have r5 : wc.cell? ⟨w.heap.size, 5, none⟩ = some (.int .i64 0) := cell_of HG.out.res 5
      by_cases hbig : 1073741824 < num
      · go_wp2
        go_region
        go_wp2
        refine bodyPost_ret (results_list (rs := [.cell 4 54, .tmp 5]) rfl (by simp) (.cell w.heap.size 54 _ (0, 0) _ rfl (drew_heap (set6 ((heap_set_other (by simp) _).trans HG.out.res) _ _ _ _ _ _)) Tryz.underlying54 rfl (size54 _ _ _ _ _ _) (.tmp .nil))) rfl ⟨?_, ?_⟩
        · rw [← HRR.out]; simp only [if_pos hbig]; rfl
        · exact (below_set6 (HG.out.below.setCell (Nat.le_succ _) _) (Nat.le_refl _) _ _ _ _ _ _).drew
      · by_cases hn1 : 1 < (n : Int)
        · have hd1 : decide (1 < (n : Int)) = true := decide_eq_true hn1
          have halt : a.toNat < s.size := by omega
          have hx := bt_get s a halt
          by_cases h48 : bt s a = 48
          · have HC : Aside0 ((if 1073741824 < num then (0 : Int) else if 1 < (n : Int) ∧ bt s a = 48 then 1 else -1) = 1) := ⟨by rw [if_neg hbig, if_pos ⟨hn1, h48⟩]⟩
            rw [h48] at hx
            clear h48
            go_wp2
            go_quiet (fail)
            go_wp2
            go_region
            go_wp2
            refine bodyPost_ret (results_list (rs := [.cell 4 54, .tmp 5]) rfl (by simp) (.cell w.heap.size 54 _ (0, 0) _ rfl (set6 ((heap_set_other (by simp) _).trans (HG.out.drewN _).res) _ _ _ _ _ _) Tryz.underlying54 rfl (size54 _ _ _ _ _ _) (.tmp .nil))) rfl ⟨?_, ?_⟩
            · rw [← HRR.out]; rw [HC.out]; rfl
            · exact below_set6 ((HG.out.drewN _).below.setCell (Nat.le_succ _) _) (Nat.le_refl _) _ _ _ _ _ _
          · have HC : Aside0 ((if 1073741824 < num then (0 : Int) else if 1 < (n : Int) ∧ bt s a = 48 then 1 else -1) = -1) := ⟨by rw [if_neg hbig, if_neg (fun h => h48 h.2)]⟩
            have h48b : (bt s a == 48) = false := beq_eq_false_iff_ne.2 h48
            clear h48
            go_wp2
            go_quiet (fail)
            go_wp2
            go_region
            go_wp2
            refine bodyPost_ret (results_list (rs := [.cell 4 54, .tmp 5]) rfl (by simp) (.cell w.heap.size 54 _ (0, 0) _ rfl (set6 ((heap_set_other (by simp) _).trans (HG.out.drewN _).res) _ _ _ _ _ _) Tryz.underlying54 rfl (size54 _ _ _ _ _ _) (.tmp .nil))) rfl ⟨?_, ?_⟩
            · rw [← HRR.out]; rw [HC.out]; rfl
            · exact below_set6 ((HG.out.drewN _).below.setCell (Nat.le_succ _) _) (Nat.le_refl _) _ _ _ _ _ _
        · have hd1 : decide (1 < (n : Int)) = false := decide_eq_false hn1
          have HC : Aside0 ((if 1073741824 < num then (0 : Int) else if 1 < (n : Int) ∧ bt s a = 48 then 1 else -1) = -1) := ⟨by rw [if_neg hbig, if_neg (fun h => hn1 h.1)]⟩
          go_wp2
          go_quiet (fail)
          go_wp2
          go_region
          go_wp2
          refine bodyPost_ret (results_list (rs := [.cell 4 54, .tmp 5]) rfl (by simp) (.cell w.heap.size 54 _ (0, 0) _ rfl (set6 ((heap_set_other (by simp) _).trans (HG.out.drewN _).res) _ _ _ _ _ _) Tryz.underlying54 rfl (size54 _ _ _ _ _ _) (.tmp .nil))) rfl ⟨?_, ?_⟩
          · rw [← HRR.out]; rw [HC.out]; rfl
          · exact below_set6 ((HG.out.drewN _).below.setCell (Nat.le_succ _) _) (Nat.le_refl _) _ _ _ _ _ _
end Go.Proofs.YtfnhjdehlikbaaaGreatDoor.Lx
