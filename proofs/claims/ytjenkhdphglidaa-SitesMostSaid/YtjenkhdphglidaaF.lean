/- What the bits of a float tell: plain facts, no program. -/
import Derived.Laws.FloatArith
import Derived.IntWalk
namespace Go.Proofs.Ytjenkhdphglidaa
open Go Ieee

/-- The bits of an int as a uint64. -/
def ub (b : Int) : Nat := (IntKind.u64.wrap b).toNat
/-- Is it finite? -/
def fin (b : Int) : Bool := !(double.read (ub b)).isNaN && !(double.read (ub b)).isInfinity
/-- Is it 0 or -0? -/
def isz (b : Int) : Bool := FloatKind.f64.format.order (ub b) 0 == some .eq
/-- 0 for -0. -/
def nrm (b : Int) : Int := if isz b then 0 else b

theorem wrap_u64 (b : Int) : IntKind.u64.wrap b = b % 18446744073709551616 := by
  simp [IntKind.wrap, IntKind.signed, IntKind.bits]

theorem fin_number {b : Int} (h : fin b = true) : ∃ s m p, double.read (ub b) = .number s m p := by
  unfold fin at h
  cases hr : double.read (ub b) with
  | number s m p => exact ⟨s, m, p, rfl⟩
  | infinity s => rw [hr] at h; simp [Datum.isNaN, Datum.isInfinity] at h
  | nan s t => rw [hr] at h; simp [Datum.isNaN, Datum.isInfinity] at h

theorem order_self {x : Nat} {s : Bool} {m : Nat} {p : Int} (h : double.read x = .number s m p) : FloatKind.f64.format.order x x = some .eq := by
  show (double.read x).order (double.read x) = _
  rw [h]
  simp [Datum.order, compare, compareOfLessAndEq]

theorem sub_self {x : Nat} {s : Bool} {m : Nat} {p : Int} (h : double.read x = .number s m p) : floatBits .sub .f64 x x = some 0 := by
  show ((double.read x).sum (double.read x).opposite).map double.write = _
  rw [h]
  have e : ∀ k : Nat, signed s m k + signed (!s) m k = 0 := by
    intro k
    cases s <;> simp [signed] <;> omega
  simp [Datum.opposite, Datum.sum, e, Format.write, Format.nearest, Format.word]

theorem sub_wild {b : Int} (h : fin b = false) : floatBits .sub .f64 (ub b) (ub b) = none := by
  show ((double.read (ub b)).sum (double.read (ub b)).opposite).map double.write = _
  unfold fin at h
  cases hr : double.read (ub b) with
  | number s m p => rw [hr] at h; simp [Datum.isNaN, Datum.isInfinity] at h
  | infinity s => cases s <;> simp [Datum.opposite, Datum.sum]
  | nan s t => simp [Datum.opposite, Datum.sum]

theorem nan_read (x y t : Nat) : ∃ s f, double.read ((Question.nanBits .f64 x y).cut t) = .nan s f := by
  have hb : double.binade = 4503599627370496 := by decide
  have hi : double.infRung = 9218868437227405312 := by decide
  have hs : double.signWeight = 9223372036854775808 := by decide
  unfold Question.cut Format.read
  simp only [hb, hi, hs]
  have h1 : ((t % 2) * 2 ^ 63 + 0x7ff0000000000000 + 1 + (t / 2) % (2 ^ 52 - 1)) % 9223372036854775808 = 0x7ff0000000000000 + 1 + (t / 2) % (2 ^ 52 - 1) := by omega
  rw [h1]
  rw [if_neg (by omega), if_neg (by omega), if_neg (by omega)]
  exact ⟨_, _, rfl⟩

theorem nan_order (x y t : Nat) : FloatKind.f64.format.order ((Question.nanBits .f64 x y).cut t) ((Question.nanBits .f64 x y).cut t) = none := by
  obtain ⟨s, f, h⟩ := nan_read x y t
  show (double.read _).order (double.read _) = _
  rw [h]
  rfl

theorem read_zero : double.read 0 = .number false 0 (-1074) := by decide

theorem isz_iff {b : Int} : isz b = true ↔ ∃ s p, double.read (ub b) = .number s 0 p := by
  unfold isz
  show ((double.read (ub b)).order (double.read 0) == some .eq) = true ↔ _
  rw [read_zero]
  cases hr : double.read (ub b) with
  | nan s t => simp [Datum.order]
  | infinity s => cases s <;> simp [Datum.order]
  | number s m p =>
    simp only [Datum.order, beq_iff_eq, Option.some.injEq, Datum.number.injEq]
    rw [Std.compare_eq_iff_eq]
    constructor
    · intro h
      have hz : signed false 0 ((-1074 : Int) - min p (-1074)).toNat = 0 := by simp [signed]
      rw [hz] at h
      have : (m <<< (p - min p (-1074)).toNat : Nat) = 0 := by
        unfold signed at h
        split at h <;> omega
      rw [Nat.shiftLeft_eq] at this
      have hm : m = 0 := by
        rcases Nat.mul_eq_zero.1 this with h | h
        · exact h
        · have := Nat.two_pow_pos (p - min p (-1074)).toNat; omega
      exact ⟨s, p, rfl, hm, rfl⟩
    · rintro ⟨s', p', rfl, rfl, rfl⟩
      cases s <;> simp [signed]

theorem isz_fin {b : Int} (h : isz b = true) : fin b = true := by
  obtain ⟨s, p, h⟩ := isz_iff.1 h
  unfold fin
  rw [h]; rfl

theorem isz_zero : isz 0 = true := by decide
theorem fin_zero : fin 0 = true := by decide
theorem isz_min : isz (-9223372036854775808) = true := by decide

theorem nrm_ne_min (b : Int) : nrm b ≠ -9223372036854775808 := by
  unfold nrm
  split
  · decide
  · rename_i h
    intro e
    rw [e] at h
    exact h isz_min

theorem nrm_nrm (b : Int) : nrm (nrm b) = nrm b := by
  unfold nrm
  by_cases h : isz b = true
  · rw [if_pos h, if_pos isz_zero]
  · rw [if_neg h, if_neg h]

theorem fin_nrm {b : Int} (h : fin b = true) : fin (nrm b) = true := by
  unfold nrm
  split
  · exact fin_zero
  · exact h

theorem same_nrm {b : Int} (h : fin b = true) : (FloatKind.f64.format.order (ub (nrm b)) (ub b) == some .eq) = true := by
  unfold nrm
  by_cases hz : isz b = true
  · rw [if_pos hz]
    obtain ⟨s, p, h⟩ := isz_iff.1 hz
    show ((double.read (ub 0)).order (double.read (ub b)) == some .eq) = true
    rw [h, show ub 0 = 0 from by decide, read_zero]
    cases s <;> simp [Datum.order, signed]
  · rw [if_neg hz]
    obtain ⟨s, m, p, h⟩ := fin_number h
    rw [order_self h]; rfl

theorem nrm_range {b : Int} (h : -9223372036854775808 ≤ b ∧ b ≤ 9223372036854775807) : -9223372036854775808 ≤ nrm b ∧ nrm b ≤ 9223372036854775807 := by
  unfold nrm; split <;> omega

end Go.Proofs.Ytjenkhdphglidaa
