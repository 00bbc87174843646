import Derived.Test.YtfnhjdehlikbaaaGreatDoorM0
import Derived.Maps.AppendAt
import Derived.Lib.SliceRun
set_option linter.unusedVariables false
set_option linter.unusedSimpArgs false
/- The store of numbers: draw (52), Less (17), Seldom (24), From (50). -/
namespace Go.Proofs.YtfnhjdehlikbaaaGreatDoor.Lx
open Go.RowKit Go.Proofs.YtfnhjdehlikbaaaGreatDoorW.PrintWords

/-- What a store draws from: bytes that lie elsewhere, below a block. -/
def ByteAt (B b : Nat) (A : Option Addr) (n : Nat) (W : World) : Prop :=
  0 < n → ∃ g o, A = some ⟨g, o, none⟩ ∧ g ≠ b ∧ g < B ∧ ∀ i, i < n → ∃ v : Int, W.cell? ⟨g, o + i, none⟩ = some (.int .u8 v) ∧ 0 ≤ v ∧ v < 256
/-- A store below a block, which has given at most so many numbers. -/
structure StoreAt (B b N : Nat) (W : World) : Prop where
  low : b < B
  box : ∃ (A : Option Addr) (n c at_ : Nat) (seed : Int), W.heap[b]? = some (.cells #[.slice A n c, .int .i64 (at_ : Int), .int .u64 seed] 82) ∧ at_ ≤ N ∧ n ≤ 300 ∧ ByteAt B b A n W

theorem ByteAt.keep {B b n : Nat} {A : Option Addr} {W W' : World} (h : ByteAt B b A n W) (hk : Keep (· = b) W W') : ByteAt B b A n W' := fun hn => by
  obtain ⟨g, o, hA, hg, hB, hc⟩ := h hn
  refine ⟨g, o, hA, hg, hB, fun i hi => ?_⟩
  obtain ⟨v, hv, h0, h1⟩ := hc i hi
  exact ⟨v, by rw [World.cell?_of_block (w := W) (hk.block g (World.block_lt_of_cell? _ _ hv) hg)]; exact hv, h0, h1⟩
theorem StoreAt.below {B b N : Nat} {W W' : World} (h : StoreAt B b N W) (hb : Below B W W') : StoreAt B b N W' := by
  obtain ⟨A, n, c, at_, seed, h1, h2, h3, h4⟩ := h.box
  refine ⟨h.low, A, n, c, at_, seed, (hb.block _ h.low).trans h1, h2, h3, fun hn => ?_⟩
  obtain ⟨g, o, hA, hg, hB, hc⟩ := h4 hn
  refine ⟨g, o, hA, hg, hB, fun i hi => ?_⟩
  obtain ⟨v, hv, h0, h1⟩ := hc i hi
  exact ⟨v, by rw [World.cell?_of_block (w := W) (hb.block g hB)]; exact hv, h0, h1⟩
theorem StoreAt.mono {B b N M : Nat} {W : World} (h : StoreAt B b N W) (hN : N ≤ M) : StoreAt B b M W := by
  obtain ⟨A, n, c, at_, seed, h1, h2, h3, h4⟩ := h.box
  exact ⟨h.low, A, n, c, at_, seed, h1, by omega, h3, h4⟩
theorem draw_range (x : Int) : 0 ≤ wrap64 (IntKind.u64.wrap x / 1099511627776) ∧ wrap64 (IntKind.u64.wrap x / 1099511627776) < 16777216 := by
  have e : IntKind.u64.wrap x = x % 18446744073709551616 := by simp [IntKind.wrap, show IntKind.u64.signed = false from rfl, show IntKind.u64.bits = 64 from rfl]
  rw [e]
  unfold wrap64
  omega

set_option maxRecDepth 100000 in
set_option maxHeartbeats 8000000 in
theorem draw_any (B b N : Nat) (w : World) (h : StoreAt B b N w) (hN : N ≤ 1000000000) :
    Calls Tryz.prog 52 #[.pointer (some ⟨b, 0, none⟩)] w fun e w' => ∃ v : Int, e = .returned (.int .i64 v) ∧ 0 ≤ v ∧ v < 16777216 ∧ StoreAt B b (N + 1) w' ∧ Keep (· = b) w w' := by
  obtain ⟨A, n, c, at_, seed, h1, h2, h3, h4⟩ := h.box
  have c0 : w.cell? ⟨b, 0, none⟩ = some (.slice A n c) := cell_of h1 0
  have c1 : w.cell? ⟨b, 1, none⟩ = some (.int .i64 (at_ : Int)) := cell_of h1 1
  have c2 : w.cell? ⟨b, 2, none⟩ = some (.int .u64 seed) := cell_of h1 2
  have hf := fun i => free_of h1 i
  have H1 := Aside0.mk h1
  have H4 := Aside0.mk h4
  by_cases hn : 0 < n
  · obtain ⟨g, o, rfl, hg, _, hc⟩ := h4 hn
    have hlt : at_ % n < n := Nat.mod_lt _ hn
    obtain ⟨v, hv, v0, v1⟩ := hc (at_ % n) hlt
    have hn0 : decide ((n : Int) > 0) = true := by simp; omega
    have hn1 : decide (0 < n) = true := by simp; omega
    have hr : Int.tmod (at_ : Int) (n : Int) = ((at_ % n : Nat) : Int) := by rw [Int.tmod_eq_emod_of_nonneg (by omega)]; simp
    have hnz : ¬ (n : Int) = 0 := by omega
    clear h1 h4 hc
    generalize at_ % n = k at hv hlt hr
    have hk2 : (k : Int) < (n : Int) := by omega
    go_enter Tryz.func52, Tryz.ntmps52
    go_wp2
    go_region
    all_goals go_wp2
    have hd := draw_range (IntKind.u64.wrap (bits BinOp.xor IntKind.u64 seed v * 6364136223846793005) + 1442695040888963407)
    go_ret
    refine ⟨_, rfl, hd.1, hd.2, ⟨h.low, some ⟨g, o, none⟩, n, c, at_ + 1, _, heap_set (heap_set (heap_set H1.out 2 _) 1 _) 2 _, by omega, h3, ?_⟩, ?_⟩
    · exact H4.out.keep ((((Keep.refl (· = b) w).setCell (.inl rfl) _).setCell (.inl rfl) _).setCell (.inl rfl) _).drew
    · exact ((((Keep.refl (· = b) w).setCell (.inl rfl) _).setCell (.inl rfl) _).setCell (.inl rfl) _).drew
  · obtain rfl : n = 0 := by omega
    clear h1 h4
    go_enter Tryz.func52, Tryz.ntmps52
    go_wp2
    have hd := draw_range (IntKind.u64.wrap (seed * 6364136223846793005) + 1442695040888963407)
    go_ret
    refine ⟨_, rfl, hd.1, hd.2, ⟨h.low, A, 0, c, at_, _, heap_set H1.out 2 _, by omega, h3, ?_⟩, ?_⟩
    · exact H4.out.keep ((Keep.refl (· = b) w).setCell (.inl rfl) _)
    · exact (Keep.refl (· = b) w).setCell (.inl rfl) _

theorem less_any (B b N : Nat) (m : Int) (w : World) (h : StoreAt B b N w) (hN : N ≤ 1000000000) (h0 : 0 < m) (h1 : m ≤ 16777216) :
    Calls Tryz.prog 17 #[.pointer (some ⟨b, 0, none⟩), .int .i64 m] w fun e w' => ∃ v : Int, e = .returned (.int .i64 v) ∧ 0 ≤ v ∧ v < m ∧ StoreAt B b (N + 1) w' ∧ Keep (· = b) w w' := by
  have HD := Aside0.mk (draw_any B b N w h hN)
  have hm0 : ¬ m = 0 := by omega
  have hm1 : ¬ m ≤ 0 := by omega
  have hmd : ∀ v : Int, 0 ≤ v → Int.tmod v m = v % m := fun v hv => Int.tmod_eq_emod_of_nonneg hv
  have hml : ∀ v : Int, 0 ≤ v % m ∧ v % m < m := fun v => ⟨Int.emod_nonneg _ (by omega), Int.emod_lt_of_pos _ h0⟩
  have HML := Aside0.mk hml
  clear hml
  go_enter Tryz.func17, Tryz.ntmps17
  go_wp2_with (go_at_call 52; (with_reducible refine HD.out.mono ?_); rintro e w1 ⟨v, rfl, v0, v1, hs, hk⟩; have HS := Aside0.mk hs; have HK := Aside0.mk hk; have hv := hmd v v0; clear hs hk)
  go_ret
  first
  | exact ⟨_, rfl, (HML.out _).1, (HML.out _).2, HS.out, HK.out⟩
  | (refine ⟨Int.tmod v m, rfl, ?_, ?_, HS.out, HK.out⟩ <;> (rw [hv]; first | exact (HML.out _).1 | exact (HML.out _).2))

theorem seldom_any (B b N : Nat) (m : Int) (w : World) (h : StoreAt B b N w) (hN : N ≤ 1000000000) (h0 : 0 < m) (h1 : m ≤ 16777216) :
    Calls Tryz.prog 24 #[.pointer (some ⟨b, 0, none⟩), .int .i64 m] w fun e w' => ∃ v : Bool, e = .returned (.bool v) ∧ StoreAt B b (N + 1) w' ∧ Keep (· = b) w w' := by
  have HD := Aside0.mk (less_any B b N m w h hN h0 h1)
  go_enter Tryz.func24, Tryz.ntmps24
  go_wp2_with (go_at_call 17; (with_reducible refine HD.out.mono ?_); rintro e w1 ⟨v, rfl, v0, v1, hs, hk⟩; have HS := Aside0.mk hs; have HK := Aside0.mk hk; clear hs hk)
  go_ret
  exact ⟨_, rfl, HS.out, HK.out⟩

theorem from_any (B b N : Nat) (lo hi : Int) (w : World) (h : StoreAt B b N w) (hN : N ≤ 1000000000) (h0 : 0 ≤ lo) (h1 : lo ≤ hi) (h2 : hi ≤ 1000000) :
    Calls Tryz.prog 50 #[.pointer (some ⟨b, 0, none⟩), .int .i64 lo, .int .i64 hi] w fun e w' => ∃ v : Int, e = .returned (.int .i64 v) ∧ lo ≤ v ∧ v ≤ hi ∧ StoreAt B b (N + 1) w' ∧ Keep (· = b) w w' := by
  have HD := Aside0.mk (less_any B b N (hi - lo + 1) w h hN (by omega) (by omega))
  have wa : IntKind.i64.wrap (hi - lo) = hi - lo := IntWalk.i64_in _ (by omega)
  have wb : IntKind.i64.wrap (hi - lo + 1) = hi - lo + 1 := IntWalk.i64_in _ (by omega)
  go_enter Tryz.func50, Tryz.ntmps50
  go_wp2_with (go_at_call 17; (with_reducible refine HD.out.mono ?_); rintro e w1 ⟨v, rfl, v0, v1, hs, hk⟩; have HS := Aside0.mk hs; have HK := Aside0.mk hk; have wc : IntKind.i64.wrap (lo + v) = lo + v := IntWalk.i64_in _ (by omega); clear hs hk)
  go_ret
  exact ⟨_, rfl, by omega, by omega, HS.out, HK.out⟩

end Go.Proofs.YtfnhjdehlikbaaaGreatDoor.Lx

/- The store of numbers: Name (25). -/
namespace Go.Proofs.YtfnhjdehlikbaaaGreatDoor.Lx
open Go.RowKit Go.Proofs.YtfnhjdehlikbaaaGreatDoorW.PrintWords

/-- Letters alone. -/
def Letters (s : ByteArray) : Prop := ∀ c ∈ s.data.toList, 97 ≤ c.toNat ∧ c.toNat ≤ 122
theorem enc_fin : ∀ n : Fin 26, Utf8.encode (97 + (n.val : Int)) = ⟨#[UInt8.ofNat (97 + n.val)]⟩ := by decide +kernel
theorem enc_letter (x : Int) (h0 : 0 ≤ x) (h1 : x < 26) : (Utf8.encode (97 + x)).size = 1 ∧ Letters (Utf8.encode (97 + x)) := by
  have := enc_fin ⟨x.toNat, by omega⟩
  simp only [show ((x.toNat : Nat) : Int) = x by omega] at this
  rw [this]
  refine ⟨rfl, fun c hc => ?_⟩
  simp at hc
  subst hc
  simp
  omega
theorem Letters.append {a b : ByteArray} (ha : Letters a) (hb : Letters b) : Letters (a ++ b) := by
  intro c hc
  rw [ByteArray.data_append, Array.toList_append, List.mem_append] at hc
  exact hc.elim (ha c) (hb c)

set_option maxRecDepth 100000 in
set_option maxHeartbeats 8000000 in
theorem name_any (B b N : Nat) (w : World) (h : StoreAt B b N w) (hN : N ≤ 999999000) :
    Calls Tryz.prog 25 #[.pointer (some ⟨b, 0, none⟩)] w fun e w' => ∃ s : ByteArray, e = .returned (.string s) ∧ s.size ≤ 4 ∧ Letters s ∧ StoreAt B b (N + 5) w' ∧ Keep (· = b) w w' := by
  have HF := Aside0.mk (from_any B b N 1 4 w h (by omega) (by omega) (by omega) (by omega))
  have HL := Aside0.mk (fun (M : Nat) W (hs : StoreAt B b M W) (hM : M ≤ 1000000000) => less_any B b M 26 W hs hM (by omega) (by omega))
  clear h
  go_enter Tryz.func25, Tryz.ntmps25
  go_wp2_with (go_at_call 50; (with_reducible refine HF.out.mono ?_); rintro e w1 ⟨v, rfl, v0, v1, hs, hk⟩; have HS := Aside0.mk hs; have HK := Aside0.mk hk; clear hs hk)
  obtain ⟨m, rfl⟩ : ∃ m : Nat, v = (m : Int) := ⟨v.toNat, by omega⟩
  go_loopg [3, 6] m (fun f t3 t6 wr => ∃ (o : ByteArray) (k : Nat), t3 = .string o ∧ t6 = .int .i64 (k : Int) ∧ k + f = m ∧ o.size ≤ k ∧ Aside0 (StoreAt B b (N + 1 + k) wr ∧ Keep (· = b) w wr ∧ Letters o))
  case atStart => exact ⟨⟨#[]⟩, 0, rfl, rfl, by omega, by decide, ⟨HS.out, HK.out, fun c hc => by simp at hc⟩⟩
  case round =>
    obtain ⟨o, k, rfl, rfl, hkf, ho, hA⟩ := hrel
    by_cases hk : k < m
    · obtain ⟨f, rfl⟩ : ∃ f, gk = f + 1 := ⟨gk - 1, by omega⟩
      have hk2 : (k : Int) < (m : Int) := by omega
      have HC := Aside0.mk (HL.out _ _ hA.out.1 (by omega))
      go_wp2_with (go_at_call 17; (with_reducible refine HC.out.mono ?_); rintro e w2 ⟨x, rfl, x0, x1, hs2, hk2⟩; have HS2 := Aside0.mk hs2; have HK2 := Aside0.mk (hA.out.2.1.trans hk2); obtain ⟨hz, hle⟩ := enc_letter x x0 x1; have HLE := Aside0.mk hle; clear hle; clear hs2 hk2)
      go_roundg f
      case measure => omega
      case rel => exact ⟨_, k + 1, rfl, by go_num, by omega, by rw [ByteArray.size_append, hz]; omega, ⟨HS2.out, HK2.out, hA.out.2.2.append HLE.out⟩⟩
    · obtain rfl : k = m := by omega
      go_wp2
      go_ret
      exact ⟨o, rfl, by omega, hA.out.2.2, hA.out.1.mono (by omega), hA.out.2.1⟩

end Go.Proofs.YtfnhjdehlikbaaaGreatDoor.Lx

/- A store of bytes: Of (15), slices.Clone (49). -/
namespace Go.Proofs.YtfnhjdehlikbaaaGreatDoor.Lx
open Go.RowKit Go.Proofs.YtfnhjdehlikbaaaGreatDoorW.PrintWords

/-- Bytes that can be read. -/
def BytesAt (A : Option Addr) (n c : Nat) (W : World) : Prop :=
  (A = none ∧ n = 0 ∧ c = 0) ∨ ∃ a, A = some a ∧ n ≤ c ∧ c ≤ maxLen ∧ ∀ i, i < n → ∃ v : Int, W.cell? (a.add i) = some (.int .u8 v) ∧ 0 ≤ v ∧ v < 256

theorem infoU8 : (Tryz.prog.info? 5).map (fun i => (i.zero, i.size, i.bytes)) = some (some (.int .u8 0), 1, 1) := by kernel_rfl

/-- What a clone of bytes is. -/
def CloneAt (B : Nat) (v : Value) (n : Nat) (W : World) : Prop := ∃ A c, v = .slice A n c ∧ (0 < n → ∃ g, A = some ⟨g, 0, none⟩ ∧ B ≤ g ∧ ∀ i, i < n → ∃ v : Int, W.cell? ⟨g, i, none⟩ = some (.int .u8 v) ∧ 0 ≤ v ∧ v < 256)

theorem news_of {a : Addr} {n : Nat} {W : World} (h : ∀ i, i < n → ∃ v : Int, W.cell? (a.add i) = some (.int .u8 v) ∧ 0 ≤ v ∧ v < 256) :
    ∃ news : List Value, news.length = n ∧ (∀ j u, news[j]? = some u → W.cell? (a.add j) = some u) ∧ ∀ u ∈ news, ∃ v : Int, u = .int .u8 v ∧ 0 ≤ v ∧ v < 256 := by
  induction n with
  | zero => exact ⟨[], rfl, fun j u h => by simp at h, fun u h => by simp at h⟩
  | succ n ih =>
    obtain ⟨news, h1, h2, h3⟩ := ih (fun i hi => h i (by omega))
    obtain ⟨v, hv, h0, h256⟩ := h n (by omega)
    refine ⟨news ++ [.int .u8 v], by simp [h1], fun j u hj => ?_, fun u hu => ?_⟩
    · rcases Nat.lt_trichotomy j n with hlt | rfl | hgt
      · rw [List.getElem?_append_left (by omega)] at hj
        exact h2 j u hj
      · rw [List.getElem?_append_right (by omega), h1] at hj
        simp at hj
        subst hj
        exact hv
      · rw [List.getElem?_eq_none (by simp; omega)] at hj
        cases hj
    · rcases List.mem_append.1 hu with hu | hu
      · exact h3 u hu
      · simp at hu
        subst hu
        exact ⟨v, rfl, h0, h256⟩

theorem own_empty (W : World) (B : Nat) (hB : B ≤ W.heap.size) : (W.alloc (.cells #[] 5)).ownsRow B 5 1 (.slice (some ⟨W.heap.size, 0, none⟩) 0 0) 0 [] :=
  ⟨by simp, .inr ⟨W.heap.size, 0, #[], rfl, hB, heap_new W _, Nat.le_refl _, by unfold maxLen; omega, by simp, by simp⟩⟩

set_option maxRecDepth 100000 in
set_option maxHeartbeats 8000000 in
theorem clone_any (A : Option Addr) (n c : Nat) (w : World) (hn : n ≤ 300) (h : BytesAt A n c w) :
    Calls Tryz.prog 49 #[.slice A n c] w fun e w' => ∃ v, e = .returned v ∧ CloneAt w.heap.size v n w' ∧ Below w.heap.size w w' := by
  obtain ⟨i0, hi, hz0, hz1, hz2⟩ := info_parts infoU8
  have HI := Aside0.mk hi; clear hi
  have HZ0 := Aside0.mk hz0; clear hz0
  have HZ1 := Aside0.mk hz1; clear hz1
  have HZ2 := Aside0.mk hz2; clear hz2
  rcases h with ⟨rfl, rfl, rfl⟩ | ⟨a, rfl, hnc, hcm, hc⟩
  · have heq := fun W => Lib.run_eql_slice_nil (P := Tryz.prog) W 24 5 none 0 0 0 0 Tryz.underlying24
    go_enter Tryz.func49, Tryz.ntmps49
    go_wp2
    go_ret
    exact ⟨_, rfl, ⟨none, 0, rfl, fun h => absurd h (by omega)⟩, Below.refl _ _⟩
  · obtain ⟨news, hl, hnews, hv⟩ := news_of hc
    have HNE := Aside0.mk (fun j u h => (hnews j u h))
    have HV := Aside0.mk hv
    have HL := Aside0.mk hl
    have hold : ∀ j u, news[j]? = some u → (w.alloc (.cells #[] 5)).cell? (a.add j) = some u := fun j u hj => by
      have h1 := hnews j u hj
      rw [World.cell?_of_block (w := w) (((Below.refl _ w).alloc (Nat.le_refl _) _).block _ (World.block_lt_of_cell? _ _ h1))]
      exact h1
    have HO := Aside0.mk hold
    have heq := fun W => Lib.run_eql_slice_nil (P := Tryz.prog) W 24 5 (some a) n c 0 0 Tryz.underlying24
    clear hc hnews hv hold hl
    go_enter Tryz.func49, Tryz.ntmps49
    go_wp2_with (at_builtin; refine wpList_append_own_at _ rfl _ _ 24 rfl w.heap.size 5 i0 _ 1 1 Tryz.underlying24 HI.out HZ0.out HZ1.out HZ2.out rfl (by decide) (.slice (some ⟨w.heap.size, 0, none⟩) 0 0) 0 [] rfl (own_empty w _ (Nat.le_refl _)) a n c news rfl (by rw [HL.out]; omega) HO.out (fun u hu => by obtain ⟨v, rfl, _⟩ := HV.out u hu; rfl) (by unfold maxLen; omega) (by omega) (by simp) ?_; intro v' w3 hown' hgrow _ hat; have HW := Aside0.mk hown'; have HG := Aside0.mk hgrow; clear hown' hgrow hat)
    go_ret
    refine ⟨_, rfl, ?_, ?_⟩
    · have ho := HW.out
      rw [List.nil_append, Nat.zero_add] at ho
      rcases ho.2 with ⟨h1, h2⟩ | ⟨g, cap, cur, h1, hB, hh, _, _, _, ht⟩
      · exact ⟨none, 0, by subst h2; subst h1; rfl, fun h => absurd h (by omega)⟩
      · refine ⟨_, _, h1, fun hn0 => ⟨g, rfl, hB, fun i hi => ?_⟩⟩
        have hlt : i < news.length := by rw [HL.out]; exact hi
        obtain ⟨v, hv, h0, h256⟩ := HV.out _ (List.getElem_mem hlt)
        refine ⟨v, ?_, h0, h256⟩
        rw [cell_of hh, ← Array.getElem?_toList]
        have e : (cur.toList.take (n * 1))[i]? = news[i]? := by rw [ht]
        rw [List.getElem?_take_of_lt (by omega), List.getElem?_eq_getElem hlt, hv] at e
        exact e
    · exact ((Below.refl _ w).alloc (Nat.le_refl _) _).grown HG.out (by simp) (fun k hk => by simp [Value.ownBlock] at hk; omega)

set_option maxRecDepth 100000 in
set_option maxHeartbeats 8000000 in
theorem of_any (A : Option Addr) (n c : Nat) (w : World) (h : BytesAt A n c w) :
    Calls Tryz.prog 15 #[.slice A n c] w fun e w' => ∃ b, e = .returned (.pointer (some ⟨b, 0, none⟩)) ∧ w.heap.size ≤ b ∧ StoreAt w'.heap.size b 0 w' ∧ Below w.heap.size w w' := by
  obtain ⟨m, hm, hmn, hm300⟩ : ∃ m : Nat, m = min n 300 ∧ m ≤ n ∧ m ≤ 300 := ⟨min n 300, rfl, by omega, by omega⟩
  have hb : BytesAt A m c w := by
    rcases h with ⟨rfl, rfl, rfl⟩ | ⟨a, rfl, hnc, hcm, hc⟩
    · exact .inl ⟨rfl, by omega, rfl⟩
    · exact .inr ⟨a, rfl, by omega, hcm, fun i hi => hc i (by omega)⟩
  have HC := Aside0.mk (clone_any A m c w hm300 hb)
  have hmc : (m : Int) ≤ (c : Int) := by
    rcases hb with ⟨_, rfl, _⟩ | ⟨_, _, h2, _⟩ <;> omega
  clear h
  have hmc2 : m ≤ c := by omega
  have fin : ∀ (v : Value) (w1 : World), CloneAt w.heap.size v m w1 → Below w.heap.size w w1 → StoreAt (w1.heap.size + 1) w1.heap.size 0 (w1.alloc (.cells #[v, .int .i64 0, .int .u64 88172645463325252] 82)) := fun v w1 hcl hb => by
    obtain ⟨A', c', rfl, hg⟩ := hcl
    refine ⟨by omega, A', m, c', 0, _, heap_new w1 _, by omega, hm300, fun hn => ?_⟩
    obtain ⟨g, rfl, hB, hc⟩ := hg hn
    obtain ⟨_, hv0, _, _⟩ := hc 0 hn
    have hlt : g < w1.heap.size := World.block_lt_of_cell? _ _ hv0
    refine ⟨g, 0, rfl, by omega, by omega, fun i hi => ?_⟩
    obtain ⟨x, hx, h0, h1⟩ := hc i hi
    exact ⟨x, by rw [Nat.zero_add, World.cell?_of_block (w := w1) (((Below.refl _ w1).alloc (Nat.le_refl _) _).block _ hlt)]; exact hx, h0, h1⟩
  have FIN := Aside0.mk fin
  clear fin hb
  by_cases hle : n ≤ 300
  · obtain rfl : m = n := by omega
    clear hm
    have hle2 : (m : Int) ≤ 300 := by omega
    go_enter Tryz.func15, Tryz.ntmps15
    go_wp2_with (go_at_call 49; (with_reducible refine HC.out.mono ?_); rintro e w1 ⟨v, rfl, hcl, hb⟩; have HCL := Aside0.mk hcl; obtain ⟨A', c', rfl, _⟩ := hcl; have HB := Aside0.mk hb; clear hb)
    go_ret
    exact ⟨_, rfl, HB.out.size, by have := FIN.out _ _ HCL.out HB.out; simpa using this, HB.out.alloc HB.out.size _⟩
  · obtain rfl : m = 300 := by omega
    clear hm
    have hle2 : ¬ (n : Int) ≤ 300 := by omega
    go_enter Tryz.func15, Tryz.ntmps15
    go_wp2_with (go_at_call 49; (with_reducible refine HC.out.mono ?_); rintro e w1 ⟨v, rfl, hcl, hb⟩; have HCL := Aside0.mk hcl; obtain ⟨A', c', rfl, _⟩ := hcl; have HB := Aside0.mk hb; clear hb)
    go_ret
    exact ⟨_, rfl, HB.out.size, by have := FIN.out _ _ HCL.out HB.out; simpa using this, HB.out.alloc HB.out.size _⟩

end Go.Proofs.YtfnhjdehlikbaaaGreatDoor.Lx

