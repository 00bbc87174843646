import Derived.Test.YtfnhjdehlikbaaaGreatDoorM0
set_option linter.unusedVariables false
set_option linter.unusedSimpArgs false
namespace Go.Proofs.YtfnhjdehlikbaaaGreatDoor.Lx
open Go.RowKit Go.Proofs.YtfnhjdehlikbaaaGreatDoorW.PrintWords
def ByteAt (B b : Nat) (A : Option Addr) (n : Nat) (W : World) : Prop :=
  0 < n → ∃ g o, A = some ⟨g, o, none⟩ ∧ g ≠ b ∧ g < B ∧ ∀ i, i < n → ∃ v : Int, W.cell? ⟨g, o + i, none⟩ = some (.int .u8 v) ∧ 0 ≤ v ∧ v < 256
structure StoreAt (B b N : Nat) (W : World) : Prop where
  low : b < B
  box : ∃ (A : Option Addr) (n c at_ : Nat) (seed : Int), W.heap[b]? = some (.cells #[.slice A n c, .int .i64 (at_ : Int), .int .u64 seed] 82) ∧ at_ ≤ N ∧ n ≤ 300 ∧ ByteAt B b A n W
theorem ByteAt.keep {B b n : Nat} {A : Option Addr} {W W' : World} (h : ByteAt B b A n W) (hk : Keep (· = b) W W') : ByteAt B b A n W' := fun hn => by
  obtain ⟨g, o, hA, hg, hB, hc⟩ := h hn
  refine ⟨g, o, hA, hg, hB, fun i hi => ?_⟩
  obtain ⟨v, hv, h0, h1⟩ := hc i hi
  exact ⟨v, by rw [World.cell?_of_block (w := W) (hk.block g (World.block_lt_of_cell? _ _ hv) hg)]; exact hv, h0, h1⟩
theorem StoreAt.below {B b N : Nat} {W W' : World} (h : StoreAt B b N W) (hb : Below B W W') : StoreAt B b N W' := by
  obtain ⟨A, n, c, at_, seed, h1, h2, h3, h4⟩ := h.box
  refine ⟨h.low, A, n, c, at_, seed, (hb.block _ h.low).trans h1, h2, h3, fun hn => ?_⟩
  obtain ⟨g, o, hA, hg, hB, hc⟩ := h4 hn
  refine ⟨g, o, hA, hg, hB, fun i hi => ?_⟩
  obtain ⟨v, hv, h0, h1⟩ := hc i hi
  exact ⟨v, by rw [World.cell?_of_block (w := W) (hb.block g hB)]; exact hv, h0, h1⟩
theorem StoreAt.mono {B b N M : Nat} {W : World} (h : StoreAt B b N W) (hN : N ≤ M) : StoreAt B b M W := by
  obtain ⟨A, n, c, at_, seed, h1, h2, h3, h4⟩ := h.box
  exact ⟨h.low, A, n, c, at_, seed, h1, by omega, h3, h4⟩
end Go.Proofs.YtfnhjdehlikbaaaGreatDoor.Lx
