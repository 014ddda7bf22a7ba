/- The walks of wide and of what it calls. -/
import Derived.Test.YtjenkhdphglidaaG
import Derived.Test.YtjenkhdphglidaaQ
namespace Go.Proofs.Ytjenkhdphglidaa
open Go.RowKit

theorem from32 (x : Int) (w : World) : (callFunc 27 #[.int .u32 x]).run Try.prog w = .ok (.value (.float .f32 x.toNat)) w := by
  rw [run_callFunc_extern Try.func27 (by kernel_rfl) (by kernel_rfl) (by kernel_rfl) (e := Extern.MathFloatBits.float32frombits) (by kernel_rfl)]
  rfl

theorem bits64 (x : Nat) (w : World) : (callFunc 30 #[.float .f64 x]).run Try.prog w = .ok (.value (.int .u64 x)) w := by
  rw [run_callFunc_extern Try.func30 (by kernel_rfl) (by kernel_rfl) (by kernel_rfl) (e := Extern.MathFloatBits.float64bits) (by kernel_rfl)]
  rfl

set_option maxHeartbeats 400000 in
theorem isNaN_no (r : Nat) (w : World) (h : (FloatKind.f64.format.order r r != some .eq) = false) :
    Calls Try.prog 28 #[.float .f64 r] w fun e w' => e = .returned (.bool false) ∧ w = w' := by
  go_enter Try.func28, Try.ntmps28
  go_wp2
  go_ret
  exact ⟨rfl, rfl⟩

theorem andNot_top {r : Nat} (h : r < 9223372036854775808) : (bits .andNot .u64 (r : Int) 9223372036854775808).toNat = r := by
  rw [u64_andNot _ _ (by omega) (by omega) (by omega) (by omega)]
  have e : 18446744073709551615 - (9223372036854775808 : Int).toNat = 2 ^ 63 - 1 := by decide
  rw [e, Int.toNat_natCast, Int.toNat_natCast, Nat.and_two_pow_sub_one_eq_mod]
  exact Nat.mod_eq_of_lt h

set_option maxHeartbeats 400000 in
theorem abs_any (r : Nat) (w : World) (h : r < 9223372036854775808) :
    Calls Try.prog 31 #[.float .f64 r] w fun e w' => e = .returned (.float .f64 r) ∧ w = w' := by
  have h26 := from64
  have h30 := bits64
  have HT := Lib.hid (andNot_top h)
  clear h
  go_enter Try.func31, Try.ntmps31
  go_wp2
  go_ret
  exact ⟨congrArg (fun n => Ending.returned (Value.float FloatKind.f64 n)) HT.out, rfl⟩

set_option maxHeartbeats 400000 in
theorem isInf_no (r : Nat) (w : World) (h : r < 9223372036854775808) (hm : (FloatKind.f64.format.order r 9218868437227405311 == some .gt) = false) :
    Calls Try.prog 29 #[.float .f64 r, .int .i64 0] w fun e w' => e = .returned (.bool false) ∧ w = w' := by
  have HA := Lib.hid (fun w => abs_any r w h)
  clear h
  go_enter Try.func29, Try.ntmps29
  go_wp2_with (go_at_call 31; refine (HA.out _).mono ?_; rintro e w' ⟨rfl, rfl⟩)
  go_ret
  exact ⟨rfl, rfl⟩

set_option maxHeartbeats 400000 in
theorem wide_yes (b r : Nat) (w : World) (hb : b < 4294967296) (hr : r < 9223372036854775808) (hc : floatToFloatBits .f32 b .f64 = some r) (hs : (FloatKind.f64.format.order r r != some .eq) = false)
    (hm : (FloatKind.f64.format.order r 9218868437227405311 == some .gt) = false) :
    Calls Try.prog 24 #[.int .i64 b] w fun e w' => e = .returned (.tuple #[.int .i64 r, .int .i64 0]) ∧ w = w' := by
  have h27 := from32
  have h30 := bits64
  have HN := Lib.hid (fun w => isNaN_no r w hs)
  have HI := Lib.hid (fun w => isInf_no r w hr hm)
  have hcv := fun w : World => run_convert_float_float (P := Try.prog) w 59 52 .f32 .f64 (b % 4294967296) r (by rw [Try.underlying59]; rfl) Try.underlying52 (by rw [Nat.mod_eq_of_lt hb]; exact hc)
  have h0 : decide ((b : Int) < 0) = false := by simp
  have h1 : decide ((4294967296 : Int) ≤ (b : Int)) = false := by simp; omega
  have HW2 := Lib.hid (show wrap64 (r : Int) = r by unfold wrap64; omega)
  clear hb hr hc hs hm
  go_enter Try.func24, Try.ntmps24
  go_wp2_with (first | (go_at_call 28; refine (HN.out _).mono ?_; rintro e w' ⟨rfl, rfl⟩) | (go_at_call 29; refine (HI.out _).mono ?_; rintro e w' ⟨rfl, rfl⟩))
  go_ret2
  exact ⟨congrArg (fun n => Ending.returned (Value.tuple #[Value.int IntKind.i64 n, Value.int IntKind.i64 0])) HW2.out, rfl⟩

theorem wide_row (j : Nat) (w : World) (hj : j < 8388608) :
    Calls Try.prog 24 #[.int .i64 ((1065353216 + j : Nat) : Int)] w fun e w' => e = .returned (.tuple #[.int .i64 ((4607182418800017408 + j * 536870912 : Nat) : Int), .int .i64 0]) ∧ w = w' :=
  wide_yes _ _ w (by omega) (by omega) (conv32 hj) (self_pos (by omega) (by omega)) (max_pos hj)

theorem wide_zero (w : World) : Calls Try.prog 24 #[.int .i64 0] w fun e w' => e = .returned (.tuple #[.int .i64 0, .int .i64 0]) ∧ w = w' :=
  wide_yes 0 0 w (by decide) (by decide) conv0 self_zero max_zero

end Go.Proofs.Ytjenkhdphglidaa
