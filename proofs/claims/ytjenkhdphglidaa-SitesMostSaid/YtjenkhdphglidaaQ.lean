/- The floats that SitesMost takes: plain facts, no program. -/
import Derived.Test.YtjenkhdphglidaaF
namespace Go.Proofs.Ytjenkhdphglidaa
open Go Ieee

theorem dbl_binade : double.binade = 4503599627370496 := by decide
theorem dbl_inf : double.infRung = 9218868437227405312 := by decide
theorem dbl_sign : double.signWeight = 9223372036854775808 := by decide

theorem read_pos {r : Nat} (h1 : 4503599627370496 ≤ r) (h2 : r < 9218868437227405312) :
    ∃ p, double.read r = .number false (4503599627370496 + r % 4503599627370496) p := by
  unfold Format.read
  simp only [dbl_binade, dbl_inf, dbl_sign]
  have e1 : r % 9223372036854775808 = r := by omega
  have e2 : (r / 9223372036854775808 % 2 == 1) = false := by
    have : r / 9223372036854775808 = 0 := by omega
    rw [this]; rfl
  rw [e1, e2, if_neg (by omega), if_pos (by omega)]
  exact ⟨_, rfl⟩

theorem ub_pos {x : Int} (h0 : 0 ≤ x) (h1 : x < 9218868437227405312) : ub x = x.toNat := by
  unfold ub
  rw [wrap_u64]
  congr 1
  omega

theorem pos_facts {x : Int} (h1 : 4503599627370496 ≤ x) (h2 : x < 9218868437227405312) : fin x = true ∧ nrm x = x := by
  have e : ub x = x.toNat := ub_pos (by omega) h2
  obtain ⟨p, hr⟩ := read_pos (r := x.toNat) (by omega) (by omega)
  rw [← e] at hr
  constructor
  · unfold fin; rw [hr]; rfl
  · unfold nrm
    rw [if_neg]
    intro hz
    obtain ⟨s, q, hz⟩ := isz_iff.1 hz
    rw [hr] at hz
    injection hz
    omega

theorem sgl_binade : single.binade = 8388608 := by decide
theorem sgl_inf : single.infRung = 2139095040 := by decide
theorem sgl_sign : single.signWeight = 2147483648 := by decide
theorem sgl_least : single.leastPlace = -149 := by decide
theorem dbl_least : double.leastPlace = -1074 := by decide

theorem log2_23 {j : Nat} (h : j < 8388608) : (8388608 + j).log2 = 23 := by
  rw [Nat.log2_eq_iff (by omega)]
  omega

theorem read32 {j : Nat} (h : j < 8388608) : single.read (1065353216 + j) = .number false (8388608 + j) (-23) := by
  unfold Format.read
  simp only [sgl_binade, sgl_inf, sgl_sign, sgl_least]
  have e1 : (1065353216 + j) % 2147483648 = 1065353216 + j := by omega
  have e2 : ((1065353216 + j) / 2147483648 % 2 == 1) = false := by
    have : (1065353216 + j) / 2147483648 = 0 := by omega
    rw [this]; rfl
  have e3 : (1065353216 + j) % 8388608 = j := by omega
  have e4 : (1065353216 + j) / 8388608 = 127 := by omega
  rw [e1, e2, if_neg (by omega), if_pos (by omega), e3, e4]
  rfl

theorem write64 {j : Nat} (h : j < 8388608) : double.write (.number false (8388608 + j) (-23)) = 4607182418800017408 + j * 536870912 := by
  show double.nearest false (8388608 + j) (-23) = _
  unfold Format.nearest
  rw [if_neg (by omega)]
  simp only [log2_23 h, dbl_least, dbl_binade, dbl_inf]
  have e0 : double.fractionBits = 52 := rfl
  rw [e0]
  have e1 : max (-23 + ((23 : Nat) : Int) - ((52 : Nat) : Int)) (-1074) = -52 := by decide
  rw [e1]
  have e2 : ((-23 : Int) - -52).toNat = 29 := by decide
  have e3 : ((-52 : Int) - -23).toNat = 0 := by decide
  have e4 : ((-52 : Int) - -1074).toNat = 1022 := by decide
  rw [e2, e3, e4, Nat.shiftLeft_eq]
  unfold Toward.cut
  simp only [Nat.zero_min, Nat.shiftLeft_zero, Nat.div_one, Nat.mod_one, Format.word]
  have e5 : (2 : Nat) ^ 29 = 536870912 := by decide
  rw [e5]
  simp
  omega

theorem conv32 {j : Nat} (h : j < 8388608) : floatToFloatBits .f32 (1065353216 + j) .f64 = some (4607182418800017408 + j * 536870912) := by
  unfold floatToFloatBits
  rw [if_neg (by decide)]
  have hd : FloatKind.f32.decode (1065353216 + j) = .number false (8388608 + j) (-23) := read32 h
  have he : FloatKind.f64.encode (.number false (8388608 + j) (-23)) = 4607182418800017408 + j * 536870912 := write64 h
  rw [hd]
  simp only
  rw [he]
  obtain ⟨p, hr⟩ := read_pos (r := 4607182418800017408 + j * 536870912) (by omega) (by omega)
  have hr' : FloatKind.f64.decode (4607182418800017408 + j * 536870912) = _ := hr
  rw [hr']
  rfl

theorem conv0 : floatToFloatBits .f32 0 .f64 = some 0 := by decide

theorem self_pos {r : Nat} (h1 : 4503599627370496 ≤ r) (h2 : r < 9218868437227405312) : (FloatKind.f64.format.order r r != some .eq) = false := by
  obtain ⟨p, hr⟩ := read_pos h1 h2
  rw [order_self hr]; rfl

theorem read_max : double.read 9218868437227405311 = .number false 9007199254740991 971 := by decide

/-- No positive normal number is above the greatest. -/
theorem max_pos {j : Nat} (h : j < 8388608) : (FloatKind.f64.format.order (4607182418800017408 + j * 536870912) 9218868437227405311 == some .gt) = false := by
  have hr : double.read (4607182418800017408 + j * 536870912) = .number false (4503599627370496 + j * 536870912) (-52) := by
    unfold Format.read
    simp only [dbl_binade, dbl_inf, dbl_sign, dbl_least]
    have e1 : (4607182418800017408 + j * 536870912) % 9223372036854775808 = 4607182418800017408 + j * 536870912 := by omega
    have e2 : ((4607182418800017408 + j * 536870912) / 9223372036854775808 % 2 == 1) = false := by
      have : (4607182418800017408 + j * 536870912) / 9223372036854775808 = 0 := by omega
      rw [this]; rfl
    have e3 : (4607182418800017408 + j * 536870912) % 4503599627370496 = j * 536870912 := by omega
    have e4 : (4607182418800017408 + j * 536870912) / 4503599627370496 = 1023 := by omega
    rw [e1, e2, if_neg (by omega), if_pos (by omega), e3, e4]
    rfl
  show ((double.read _).order (double.read _) == some .gt) = false
  rw [hr, read_max]
  have e0 : min (-52 : Int) 971 = -52 := by decide
  simp only [Datum.order, e0]
  have e1 : ((-52 : Int) - -52).toNat = 0 := by decide
  have e2 : ((971 : Int) - -52).toNat = 1023 := by decide
  rw [e1, e2]
  have hlt : signed false (4503599627370496 + j * 536870912) 0 < signed false 9007199254740991 1023 := by
    have h1 : ∀ E : Nat, 0 < E → 4503599627370496 + j * 536870912 < 9007199254740991 * E := fun E hE => by
      have := Nat.mul_le_mul_left 9007199254740991 hE
      omega
    have h2 := h1 (2 ^ 1023) (Nat.two_pow_pos _)
    simp only [signed, Nat.shiftLeft_eq, Bool.false_eq_true, if_false, Nat.pow_zero, Nat.mul_one]
    exact Int.ofNat_lt.2 h2
  have hc : compare (signed false (4503599627370496 + j * 536870912) 0) (signed false 9007199254740991 1023) = .lt := by
    rw [Std.compare_eq_lt]; exact hlt
  rw [hc]
  rfl

theorem self_zero : (FloatKind.f64.format.order 0 0 != some .eq) = false := by decide
theorem max_zero : (FloatKind.f64.format.order 0 9218868437227405311 == some .gt) = false := by decide

end Go.Proofs.Ytjenkhdphglidaa
