/- The walks of the functions over floats. -/
import Derived.Test.YtjenkhdphglidaaRows
import Derived.Test.YtjenkhdphglidaaF
import Derived.WalkKit
import Derived.WalkSpells
import Derived.WalkLawsBesides
import Derived.Lib.Hide
import Derived.BigQuiet
import Derived.Deep.QuietTactic
import Derived.StillTailTactics
import Derived.Outline
import Derived.Deep.RegionWith
namespace Go.Proofs.Ytjenkhdphglidaa
open Go.RowKit

theorem from64 (x : Int) (w : World) : (callFunc 26 #[.int .u64 x]).run Try.prog w = .ok (.value (.float .f64 x.toNat)) w := by
  rw [run_callFunc_extern Try.func26 (by kernel_rfl) (by kernel_rfl) (by kernel_rfl) (e := Extern.MathFloatBits.float64frombits) (by kernel_rfl)]
  rfl

theorem run_sub_nan (w : World) (t : TypeId) (x y : Nat) (h : floatBits .sub .f64 x y = none) :
    (binOp .sub t (.float .f64 x) (.float .f64 y)).run Try.prog w = .ok (.float .f64 ((Question.nanBits .f64 x y).cut (w.tape w.drawn (.nanBits .f64 x y)))) w.drew := by
  have h' : FloatKind.f64.format.sub x y = none := h
  simp [binOp, Op.floatArith, h']
  intro hf
  simp [Question.forced] at hf

set_option maxHeartbeats 400000 in
theorem value_any (b : Int) (w : World) :
    Calls Try.prog 21 #[.int .i64 b] w fun e w' => e = .returned (.float .f64 (ub b)) ∧ w = w' := by
  have h26 := from64
  go_enter Try.func21, Try.ntmps21
  go_wp2
  go_ret
  exact ⟨rfl, rfl⟩

set_option maxHeartbeats 400000 in
theorem finite_yes (b : Int) (w : World) (h : fin b = true) :
    Calls Try.prog 22 #[.int .i64 b] w fun e w' => e = .returned (.bool true) ∧ ∃ n, w' = w.drewN n := by
  have h26 := from64
  obtain ⟨s, m, p, hr⟩ := fin_number h
  have hs := fun (w : World) => run_float_arith (P := Try.prog) w .sub 52 .f64 (ub b) (ub b) 0 (sub_self hr)
  unfold ub at hs
  clear hr h
  go_enter Try.func22, Try.ntmps22
  go_wp2
  go_ret
  exact ⟨rfl, 0, rfl⟩

set_option maxHeartbeats 400000 in
theorem finite_no (b : Int) (w : World) (h : fin b = false) :
    Calls Try.prog 22 #[.int .i64 b] w fun e w' => e = .returned (.bool false) ∧ ∃ n, w' = w.drewN n := by
  have h26 := from64
  have hs := fun (w : World) => run_sub_nan w 52 (ub b) (ub b) (sub_wild h)
  have hn := fun t => nan_order (ub b) (ub b) t
  unfold ub at hs hn
  clear h
  go_enter Try.func22, Try.ntmps22
  go_wp2
  go_ret
  exact ⟨rfl, 1, rfl⟩

theorem fin_any (b : Int) (w : World) :
    Calls Try.prog 22 #[.int .i64 b] w fun e w' => e = .returned (.bool (fin b)) ∧ ∃ n, w' = w.drewN n := by
  cases h : fin b
  · exact finite_no b w h
  · exact finite_yes b w h

set_option maxHeartbeats 400000 in
theorem normal_yes (b : Int) (w : World) (h : isz b = true) :
    Calls Try.prog 25 #[.int .i64 b] w fun e w' => e = .returned (.int .i64 0) ∧ w = w' := by
  unfold isz at h
  go_enter Try.func25, Try.ntmps25
  go_wp2_with (go_at_call 21; refine (value_any _ _).mono ?_; rintro e w' ⟨rfl, rfl⟩)
  go_ret
  exact ⟨rfl, rfl⟩

set_option maxHeartbeats 400000 in
theorem normal_no (b : Int) (w : World) (h : isz b = false) :
    Calls Try.prog 25 #[.int .i64 b] w fun e w' => e = .returned (.int .i64 b) ∧ w = w' := by
  unfold isz at h
  go_enter Try.func25, Try.ntmps25
  go_wp2_with (go_at_call 21; refine (value_any _ _).mono ?_; rintro e w' ⟨rfl, rfl⟩)
  go_ret
  exact ⟨rfl, rfl⟩

theorem normal_any (b : Int) (w : World) :
    Calls Try.prog 25 #[.int .i64 b] w fun e w' => e = .returned (.int .i64 (nrm b)) ∧ w = w' := by
  unfold nrm
  cases h : isz b
  · exact normal_no b w h
  · exact normal_yes b w h

theorem normal_still (b : Int) (w : World) :
    Calls Try.prog 25 #[.int .i64 b] w fun e w' => e = .returned (.int .i64 (nrm b)) ∧ w' = w :=
  (normal_any b w).mono fun _ _ ⟨h1, h2⟩ => ⟨h1, h2.symm⟩

/-- Is it a point? -/
def okP (x y : Int) : Bool := fin x && fin y

/-- The number of the error that Check tells. -/
def chk (x y : Int) : Int := if okP x y then 0 else 10

theorem bel_box (w : World) (o : Obj) (n : Nat) : Below w.heap.size w ((w.alloc o).drewN n) :=
  below_drewN ((Below.refl _ _).alloc (Nat.le_refl _) _) _

set_option maxHeartbeats 400000 in
theorem check_1 (x y : Int) (w : World) (hx : fin x = true) (hy : fin y = true) :
    Calls Try.prog 10 #[.agg #[.int .i64 x, .int .i64 y]] w fun e w' => e = .returned (.int .i64 0) ∧ Below w.heap.size w w' := by
  go_enter Try.func10, Try.ntmps10
  go_wp2_with (go_at_call 22; refine (fin_any _ _).mono ?_; rintro e w' ⟨rfl, n, rfl⟩)
  go_ret
  exact ⟨rfl, bel_box ..⟩

set_option maxHeartbeats 400000 in
theorem check_2 (x y : Int) (w : World) (hx : fin x = false) :
    Calls Try.prog 10 #[.agg #[.int .i64 x, .int .i64 y]] w fun e w' => e = .returned (.int .i64 10) ∧ Below w.heap.size w w' := by
  go_enter Try.func10, Try.ntmps10
  go_wp2_with (go_at_call 22; refine (fin_any _ _).mono ?_; rintro e w' ⟨rfl, n, rfl⟩)
  go_ret
  exact ⟨rfl, bel_box ..⟩

set_option maxHeartbeats 400000 in
theorem check_3 (x y : Int) (w : World) (hx : fin x = true) (hy : fin y = false) :
    Calls Try.prog 10 #[.agg #[.int .i64 x, .int .i64 y]] w fun e w' => e = .returned (.int .i64 10) ∧ Below w.heap.size w w' := by
  go_enter Try.func10, Try.ntmps10
  go_wp2_with (go_at_call 22; refine (fin_any _ _).mono ?_; rintro e w' ⟨rfl, n, rfl⟩)
  go_ret
  exact ⟨rfl, bel_box ..⟩

theorem check_any (x y : Int) (w : World) :
    Calls Try.prog 10 #[.agg #[.int .i64 x, .int .i64 y]] w fun e w' => e = .returned (.int .i64 (chk x y)) ∧ Below w.heap.size w w' := by
  unfold chk okP
  cases hx : fin x
  · exact check_2 x y w hx
  · cases hy : fin y
    · exact check_3 x y w hx hy
    · exact check_1 x y w hx hy

theorem check_yes (x y : Int) (w : World) (h : okP x y = true) :
    Calls Try.prog 10 #[.agg #[.int .i64 x, .int .i64 y]] w fun e w' => e = .returned (.int .i64 0) ∧ Below w.heap.size w w' := by
  have := check_any x y w
  unfold chk at this
  rwa [h] at this

theorem check_not (x y : Int) (w : World) (h : okP x y = false) :
    Calls Try.prog 10 #[.agg #[.int .i64 x, .int .i64 y]] w fun e w' => e = .returned (.int .i64 10) ∧ Below w.heap.size w w' := by
  have := check_any x y w
  unfold chk at this
  rwa [h] at this

theorem bcell {W w1 : World} (hb : Below W.heap.size W w1) : (∀ b o, b < W.heap.size → w1.cell? ⟨b, o, none⟩ = W.cell? ⟨b, o, none⟩) ∧ (∀ b o, b < W.heap.size → w1.frozen? ⟨b, o, none⟩ = W.frozen? ⟨b, o, none⟩) :=
  ⟨fun b o h => hb.cell (p := ⟨b, o, none⟩) h, fun b o h => hb.frozen (p := ⟨b, o, none⟩) h⟩

theorem two_cells {w w1 : World} {a b c d : Value} {t t' : TypeId} (hb : Below ((w.alloc (Obj.cells #[a, b] t)).alloc (Obj.cells #[c, d] t')).heap.size ((w.alloc (Obj.cells #[a, b] t)).alloc (Obj.cells #[c, d] t')) w1) :
    w1.cell? ⟨w.heap.size, 0, none⟩ = some a ∧ w1.cell? ⟨w.heap.size, 1, none⟩ = some b ∧ w1.cell? ⟨w.heap.size + 1, 0, none⟩ = some c ∧ w1.cell? ⟨w.heap.size + 1, 1, none⟩ = some d ∧
    w1.frozen? ⟨w.heap.size + 1, 0, none⟩ = false ∧ w1.frozen? ⟨w.heap.size + 1, 1, none⟩ = false ∧ w.heap.size + 1 < w1.heap.size ∧ Below w.heap.size w w1 := by
  obtain ⟨hc, hf⟩ := bcell hb
  refine ⟨?_, ?_, ?_, ?_, ?_, ?_, ?_, ?_⟩
  · rw [hc _ _ (by simp; omega)]; simp
  · rw [hc _ _ (by simp; omega)]; simp
  · rw [hc _ _ (by simp)]; simp
  · rw [hc _ _ (by simp)]; simp
  · rw [hf _ _ (by simp)]; simp
  · rw [hf _ _ (by simp)]; simp
  · have := hb.size; simp at this; omega
  · exact (((Below.refl _ _).alloc (Nat.le_refl _) _).alloc (by simp) _).trans (hb.mono (by simp; omega))

set_option maxHeartbeats 400000 in
theorem normalP_no (x y : Int) (w : World) (hp : okP x y = false) :
    Calls Try.prog 18 #[.agg #[.int .i64 x, .int .i64 y]] w fun e w' => e = .returned (.tuple #[.agg #[.int .i64 0, .int .i64 0], .int .i64 10]) ∧ Below w.heap.size w w' := by
  go_enter Try.func18, Try.ntmps18
  go_wp2_with (go_at_call 10; refine (check_not _ _ _ hp).mono ?_; rintro e w1 ⟨rfl, hb⟩; obtain ⟨c0, c1, d0, d1, f0, f1, hz, hb'⟩ := two_cells hb)
  exact bodyPost_ret (v := .tuple #[.agg #[.int .i64 0, .int .i64 0], .int .i64 10]) (by simp [results, Try.results18, go_sem, hz, d0, d1]) rfl ⟨rfl, (hb'.setCell (by simp) _).setCell (by simp) _⟩

set_option maxHeartbeats 400000 in
theorem normalP_yes (x y : Int) (w : World) (hp : okP x y = true) :
    Calls Try.prog 18 #[.agg #[.int .i64 x, .int .i64 y]] w fun e w' => e = .returned (.tuple #[.agg #[.int .i64 (nrm x), .int .i64 (nrm y)], .int .i64 0]) ∧ Below w.heap.size w w' := by
  go_enter Try.func18, Try.ntmps18
  go_wp2_with (go_at_call 10; refine (check_yes _ _ _ hp).mono ?_; rintro e w1 ⟨rfl, hb⟩; obtain ⟨c0, c1, d0, d1, f0, f1, hz, hb'⟩ := two_cells hb)
  go_still_tail 7, (by kernel_rfl)
  still_call (normal_still _ _)
  repeat still_step
  still_call (normal_still _ _)
  repeat still_step
  refine wpStill_nil ?_
  change wpList _ _ _ _ _ w1.drew
  go_wp2
  exact bodyPost_ret (v := .tuple #[.agg #[.int .i64 (nrm x), .int .i64 (nrm y)], .int .i64 0]) (by simp [results, Try.results18, go_sem, hz, d0, d1]) rfl ⟨rfl, ((hb'.setCell (by simp) _).setCell (by simp) _).drew⟩

end Go.Proofs.Ytjenkhdphglidaa
