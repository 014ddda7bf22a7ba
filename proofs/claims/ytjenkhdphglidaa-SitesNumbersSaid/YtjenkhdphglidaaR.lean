/- The arguments of SitesNumbers, opened. -/
import Derived.Test.YtjenkhdphglidaaS
import Derived.ProofKit
import Derived.Deep.SlicePairs
namespace Go.Proofs.Ytjenkhdphglidaa
open Go.ChangeShapes Go.WideShapes Go.ChangeAt Go.RowKit Go.Deep

/-- What a walk is told of a slice of points that came in: where its elements lie, what they hold. -/
def PtArg (w : World) (A : Option Addr) (n c : Nat) : Prop := ∃ (b off : Nat) (P : List (Int × Int)),
  (∀ (i : Nat) (w : World), i < n → (Instr.indexAt 22 (.slice A n c) (.int .i64 i)).run Try.prog w = Result.ok (.pointer (some ⟨b, off + i * 2, none⟩)) w) ∧
  (∀ i : Nat, i < n → b < w.heap.size ∧ w.cell? ⟨b, off + i * 2, none⟩ = some (.int .i64 (P.getD i (0, 0)).1) ∧ w.cell? ⟨b, off + i * 2 + 1, none⟩ = some (.int .i64 (P.getD i (0, 0)).2) ∧ InR (P.getD i (0, 0)).1 ∧ InR (P.getD i (0, 0)).2)

/-- .. of a slice of ints. -/
def IntArg (w : World) (A : Option Addr) (n c : Nat) : Prop := ∃ (b off : Nat) (Q : List Int),
  (∀ (i : Nat) (w : World), i < n → (Instr.indexAt 23 (.slice A n c) (.int .i64 i)).run Try.prog w = Result.ok (.pointer (some ⟨b, off + i, none⟩)) w) ∧
  (∀ i : Nat, i < n → b < w.heap.size ∧ w.cell? ⟨b, off + i, none⟩ = some (.int .i64 (Q.getD i 0)))

theorem sizeOf22 (w : World) : (sizeOf (Try.prog.elem 22)).run Try.prog w = Result.ok 2 w := by kernel_rfl
theorem sizeOf23 (w : World) : (sizeOf (Try.prog.elem 23)).run Try.prog w = Result.ok 1 w := by kernel_rfl

theorem add_none {b off : Nat} (j : Nat) : (⟨b, off, none⟩ : Addr).add j = ⟨b, off + j, none⟩ := by
  unfold Addr.add
  split <;> simp_all

theorem inR_of_wf {x : Int} (h : (Lit.int .i64 x).wf = true) : InR x := by
  simp only [Lit.wf, IntKind.min, IntKind.max, IntKind.signed, IntKind.bits, Bool.and_eq_true, decide_eq_true_eq] at h
  obtain ⟨h1, h2⟩ := h
  simp at h1 h2
  unfold InR
  omega

theorem Try.struct31 : ∃ f0 f1 : Field, Try.prog.underlying 31 = some (.struct #[f0, f1]) ∧ f0.offset = 0 ∧ f1.offset = 1 ∧ f0.type = 3 ∧ f1.type = 3 := ⟨_, _, Try.underlying31, rfl, rfl, rfl, rfl⟩

section
variable {H : Type} {enc : TypeId × Value → H} {W : World} {sp : Nat → Bool} {held : Bool}

theorem ptArg_of {A : Option Addr} {n c : Nat} {d : DataW H} {p : List MemPlace} (h : DataW.Trod enc Try.prog W 0 sp held 22 (.slice A n c) d p) : PtArg W A n c := by
  obtain ⟨fuel, hf⟩ := h
  obtain ⟨f0, f1, hs, o0, o1, t0, t1⟩ := Try.struct31
  rcases open_slice_pairs Try.underlying22 hs cells31 o0 o1 (by rw [t0]; exact cells3) (by rw [t1]; exact cells3) hf with ⟨hcs, _⟩ | ⟨x, len, cap, m, k, V0, V1, D0, D1, P0, P1, hcs, _, hl, _, hm, _, hi⟩
  · simp [Value.cells] at hcs
    obtain ⟨rfl, rfl, rfl⟩ := hcs
    exact ⟨0, 0, [], fun i _ h => by omega, fun i h => by omega⟩
  · simp [Value.cells] at hcs
    obtain ⟨rfl, rfl, rfl⟩ := hcs
    have hlm : n ≤ m := by rw [hm]; split <;> omega
    by_cases h0 : n = 0
    · exact ⟨0, 0, [], fun i _ h => by omega, fun i h => by omega⟩
    · obtain ⟨b, off, spot⟩ := x
      have hspot : spot = none := by simpa [Addr.add] using World.cell?_spot (hi 0 (by omega)).1
      subst hspot
      have hv : ∀ i, i < n → ∃ z0 z1 : Int, V0 i = .int .i64 z0 ∧ V1 i = .int .i64 z1 ∧ InR z0 ∧ InR z1 := by
        intro i hin
        obtain ⟨_, _, e0, e1⟩ := hi i (by omega)
        rw [t0] at e0
        rw [t1] at e1
        obtain ⟨z0, hz0, _, w0⟩ := DataW.trod_int Try.underlying3 e0
        obtain ⟨z1, hz1, _, w1⟩ := DataW.trod_int Try.underlying3 e1
        exact ⟨z0, z1, by simpa using hz0, by simpa using hz1, inR_of_wf w0, inR_of_wf w1⟩
      refine ⟨b, off, (List.range n).map fun i => (intOf (V0 i), intOf (V1 i)), ?_, ?_⟩
      · intro i w' hin
        rw [run_indexAt_slice (h := Try.underlying22), if_pos ⟨by omega, by omega⟩, sizeOf22]
        simp [Result.andThen, add_none]
      · intro i hin
        obtain ⟨q0, q1, _, _⟩ := hi i (by omega)
        obtain ⟨z0, z1, e0, e1, r0, r1⟩ := hv i hin
        rw [add_none] at q0 q1
        have eg : ((List.range n).map fun i => (intOf (V0 i), intOf (V1 i))).getD i (0, 0) = (z0, z1) := by
          simp [List.getD, hin, e0, e1, intOf]
        rw [eg]
        exact ⟨World.block_lt_of_cell? W _ q0, by rw [← e0]; exact q0, by rw [← e1]; exact q1, r0, r1⟩

theorem intArg_of {A : Option Addr} {n c : Nat} {d : DataW H} {p : List MemPlace} (h : DataW.Trod enc Try.prog W 0 sp held 23 (.slice A n c) d p) : IntArg W A n c := by
  obtain ⟨fuel, hf⟩ := h
  rcases open_ints Try.underlying23 Try.underlying3 cells3 hf with ⟨hcs, _⟩ | ⟨x, len, cap, zs, hcs, _, hl, _, hz, _, hcell, _⟩
  · simp [Value.cells] at hcs
    obtain ⟨rfl, rfl, rfl⟩ := hcs
    exact ⟨0, 0, [], fun i _ h => by omega, fun i h => by omega⟩
  · simp [Value.cells] at hcs
    obtain ⟨rfl, rfl, rfl⟩ := hcs
    have hlm : n ≤ zs.length := by rw [hz]; split <;> omega
    by_cases h0 : n = 0
    · exact ⟨0, 0, [], fun i _ h => by omega, fun i h => by omega⟩
    · obtain ⟨b, off, spot⟩ := x
      have hspot : spot = none := by simpa [Addr.add] using World.cell?_spot (hcell 0 (by omega))
      subst hspot
      refine ⟨b, off, zs, ?_, ?_⟩
      · intro i w' hin
        rw [run_indexAt_slice (h := Try.underlying23), if_pos ⟨by omega, by omega⟩, sizeOf23]
        simp [Result.andThen, add_none]
      · intro i hin
        have q := hcell i (by omega)
        rw [add_none] at q
        exact ⟨World.block_lt_of_cell? W _ q, q⟩
end

end Go.Proofs.Ytjenkhdphglidaa
