/- Sets that are filled with a row of points, one beside the other: plain law. -/
import Derived.Test.YtjenkhdphglidaaP
import Derived.Test.YtjenkhdphglidaaQ
namespace Go.Proofs.Ytjenkhdphglidaa
open Go.RowKit Go.Maps

/-- A row of abscissas: each a positive normal float, no two alike. -/
structure Abs (f : Nat → Int) : Prop where
  lo : ∀ j, j < 65541 → 4503599627370496 ≤ f j
  hi : ∀ j, j < 65541 → f j < 9218868437227405312
  inj : ∀ i j, i < 65541 → j < 65541 → f i = f j → i = j

def wideF (j : Nat) : Int := ((4607182418800017408 + j : Nat) : Int)
def wideG (j : Nat) : Int := ((4607182418800017408 + j * 536870912 : Nat) : Int)

theorem abs_wideF : Abs wideF := ⟨fun j _ => by unfold wideF; omega, fun j _ => by unfold wideF; omega, fun i j _ _ h => by unfold wideF at h; omega⟩
theorem abs_wideG : Abs wideG := ⟨fun j _ => by unfold wideG; omega, fun j _ => by unfold wideG; omega, fun i j _ _ h => by unfold wideG at h; omega⟩

theorem Abs.facts {f : Nat → Int} (A : Abs f) {j : Nat} (h : j < 65541) : okP (f j) 0 = true ∧ nrm (f j) = f j ∧ InR (f j) := by
  have h1 := A.lo j h
  have h2 := A.hi j h
  obtain ⟨e1, e2⟩ := pos_facts h1 h2
  refine ⟨?_, e2, ?_⟩
  · unfold okP; rw [e1, fin_zero]; rfl
  · unfold InR; omega

/-- The first i points of a row. -/
def rowPts (f : Nat → Int) (i : Nat) : List (Int × Int) := (List.range i).map fun j => (f j, 0)

theorem rowPts_length (f : Nat → Int) (i : Nat) : (rowPts f i).length = i := by simp [rowPts]
theorem rowPts_succ (f : Nat → Int) (i : Nat) : rowPts f (i + 1) = rowPts f i ++ [(f i, 0)] := by simp [rowPts, List.range_succ]
theorem rowPts_getD (f : Nat → Int) {i j : Nat} (h : j < i) : (rowPts f i).getD j (0, 0) = (f j, 0) := by
  simp [rowPts, List.getD, h]

/-- What a set is that was filled with the first i points of a row. -/
structure Run (f : Nat → Int) (i : Nat) (D : DataW Unit) : Prop where
  tidy : Tidy D
  size : Maps.size D = i
  miss : ∀ j, i ≤ j → j < 65541 → Maps.has D (kl (f j) 0) = false
  hit : ∀ j, j < i → Maps.has D (kl (f j) 0) = true ∧ mval D (kl (f j) 0) = j

theorem run_nil (f : Nat → Int) : Run f 0 (.map []) := ⟨tidy_empty, rfl, fun _ _ _ => has_nil _, fun j h => by omega⟩

theorem Run.put {f : Nat → Int} (A : Abs f) {i : Nat} {D : DataW Unit} (r : Run f i D) (hi : i < 65541) : Run f (i + 1) (D.put (kl (f i) 0) (.lit (.int .i64 i))) := by
  have hne : ∀ j, j < 65541 → j ≠ i → kl (f j) 0 ≠ kl (f i) 0 := fun j hj h =>
    kl_ne (A.facts hj).2.2 in0 (A.facts hi).2.2 in0 (.inl (fun e => h (A.inj j i hj hi e)))
  refine ⟨r.tidy.put (kl_key _ _) _, ?_, ?_, ?_⟩
  · rw [size_put r.tidy, r.miss i (Nat.le_refl _) hi, r.size]; simp
  · intro j h1 h2
    rw [has_put_other (hne j h2 (by omega))]
    exact r.miss j (by omega) h2
  · intro j h1
    by_cases e : j = i
    · subst e
      exact ⟨has_put_same r.tidy.isMap (kl_key _ _) _, mval_put_same r.tidy.isMap _ _ _⟩
    · rw [has_put_other (hne j (by omega) e), mval_put_other (hne j (by omega) e)]
      exact r.hit j (by omega)

variable {B : Nat} {w : World} {sb bm : Nat} {a : Option Addr} {cap : Nat} {D : DataW Unit}

/-- A point of the row is put in: it gets the next number. -/
theorem add_row {f : Nat → Int} (A : Abs f) {i : Nat} (h : SetInv B w sb bm a cap (rowPts f i) D) (r : Run f i D) (hi : i < 65536) :
    Calls Try.prog 7 #[.pointer (some ⟨sb, 0, none⟩), .agg #[.int .i64 (f i), .int .i64 0]] w fun e w' => e = .returned (.tuple #[.int .i64 i, .int .i64 0]) ∧
      ∃ a' cap' D', SetInv B w' sb bm a' cap' (rowPts f (i + 1)) D' ∧ Run f (i + 1) D' ∧ Below B w w' := by
  obtain ⟨hp, hn, hr⟩ := A.facts (show i < 65541 by omega)
  have hm := r.miss i (Nat.le_refl _) (by omega)
  refine (add_new h (f i) 0 hp hr in0 (by rw [hn, nrm0]; exact hm) (by rw [rowPts_length]; simp; omega)).mono ?_
  rintro e w' ⟨a', cap', he, h', hb, _, _⟩
  rw [rowPts_length] at he
  rw [hn, nrm0, rowPts_length, ← rowPts_succ] at h'
  exact ⟨he, a', cap', _, h', r.put A (by omega), hb⟩

/-- .. behind MaxSites: none is put in. -/
theorem add_full {f : Nat → Int} (A : Abs f) {i j : Nat} (h : SetInv B w sb bm a cap (rowPts f i) D) (r : Run f i D) (hi : 65536 ≤ i) (hij : i ≤ j) (hj : j < 65541) :
    Calls Try.prog 7 #[.pointer (some ⟨sb, 0, none⟩), .agg #[.int .i64 (f j), .int .i64 0]] w fun e w' => e = .returned (.tuple #[.int .i64 0, .int .i64 22]) ∧ Below w.heap.size w w' := by
  obtain ⟨hp, hn, hr⟩ := A.facts hj
  exact add_many h (f j) 0 hp hr in0 (by rw [hn, nrm0]; exact r.miss j hij hj) (by rw [rowPts_length]; omega)

end Go.Proofs.Ytjenkhdphglidaa
