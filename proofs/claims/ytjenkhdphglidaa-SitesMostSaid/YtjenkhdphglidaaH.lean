/- The walks of both and Same. -/
import Derived.Test.YtjenkhdphglidaaG
namespace Go.Proofs.Ytjenkhdphglidaa
open Go.RowKit

theorem bel2 {w w1 w2 : World} {o1 o2 : Obj} (h1 : Below ((w.alloc o1).alloc o2).drew.heap.size ((w.alloc o1).alloc o2).drew w1) (h2 : Below w1.heap.size w1 w2) : Below w.heap.size w w2 :=
  (((((Below.refl _ _).alloc (Nat.le_refl _) _).alloc (by simp) _).drew).trans (h1.mono (by simp; omega))).trans (h2.mono (by have := h1.size; simp at this; omega))

set_option maxHeartbeats 400000 in
theorem both_yes (x y u v : Int) (w : World) (hp : okP x y = true) (hq : okP u v = true) :
    Calls Try.prog 20 #[.agg #[.int .i64 x, .int .i64 y], .agg #[.int .i64 u, .int .i64 v]] w fun e w' => e = .returned (.int .i64 0) ∧ Below w.heap.size w w' := by
  go_enter Try.func20, Try.ntmps20
  go_wp2
  go_region_with (go_at_call 10; refine (check_yes _ _ _ (by assumption)).mono ?_; rintro e w1 ⟨rfl, hb⟩; obtain ⟨hc, hf⟩ := bcell hb; have hz := hb.size; try simp only [World.size_drew, World.size_alloc] at hz)
  all_goals go_wp2
  all_goals go_ret
  all_goals exact ⟨rfl, bel2 (by assumption) (by assumption)⟩

/-- Are the floats of two coordinates one number? -/
def feq (x u : Int) : Bool := FloatKind.f64.format.order (ub x) (ub u) == some .eq

set_option maxHeartbeats 400000 in
theorem same_yes (x y u v : Int) (w : World) (hp : okP x y = true) (hq : okP u v = true) (hx : feq x u = true) (hy : feq y v = true) :
    Calls Try.prog 9 #[.agg #[.int .i64 x, .int .i64 y], .agg #[.int .i64 u, .int .i64 v]] w fun e w' => e = .returned (.tuple #[.bool true, .int .i64 0]) ∧ Below w.heap.size w w' := by
  unfold feq at hx hy
  go_enter Try.func9, Try.ntmps9
  go_wp2_with (go_at_call 20; refine (both_yes _ _ _ _ _ hp hq).mono ?_; rintro e w1 ⟨rfl, hb⟩; obtain ⟨c0, c1, d0, d1, _, _, hz, hb'⟩ := two_cells hb)
  go_quiet ((go_at_call 21; exact Calls.quiet_of_same ((value_any _ _).mono fun _ _ ⟨h1, h2⟩ => ⟨h1, h2.symm⟩)))
  go_wp2
  go_ret2
  exact ⟨rfl, below_drewN hb' _⟩

end Go.Proofs.Ytjenkhdphglidaa
