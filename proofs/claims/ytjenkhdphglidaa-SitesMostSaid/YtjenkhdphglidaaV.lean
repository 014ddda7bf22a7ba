/- The walk of alive: the program lives. -/
import Derived.Test.YtjenkhdphglidaaN
namespace Go.Proofs.Ytjenkhdphglidaa
open Go.RowKit Go.Maps

variable {B : Nat} {w w' : World} {sb bm : Nat} {a : Option Addr} {cap : Nat} {l : List (Int × Int)} {D : DataW Unit}

theorem has_nil (k : Lit) : Maps.has (.map [] : DataW Unit) k = false := rfl
theorem in0 : InR 0 := by unfold InR; omega
theorem in1 : InR 4607182418800017408 := by unfold InR; omega
theorem nrm0 : nrm 0 = 0 := by decide
theorem nrm1 : nrm 4607182418800017408 = 4607182418800017408 := by decide
theorem ok0 : okP 0 0 = true := by decide
theorem ok1 : okP 4607182418800017408 0 = true := by decide

theorem kl_ne {x y u v : Int} (hx : InR x) (hy : InR y) (hu : InR u) (hv : InR v) (h : x ≠ u ∨ y ≠ v) : kl x y ≠ kl u v := fun e => by
  have := kl_inj hx hy hu hv e
  omega

/-- A cell of a block that the set has not. -/
theorem out_cell (h : Out (foot sb bm a) w w') {b i : Nat} (hb : b < w.heap.size) (hF : ¬ foot sb bm a b) : w'.cell? ⟨b, i, none⟩ = w.cell? ⟨b, i, none⟩ :=
  World.cell?_of_block (h b hb hF)

theorem alive_start {w1 : World} {u v : Value} (h : SetInv B w1 sb bm a cap l D) (hb : Below B w w1) : SetInv B (w1.alloc (Obj.cells #[u, v] 31)) sb bm a cap l D ∧ Below B w (w1.alloc (Obj.cells #[u, v] 31)) ∧
    (w1.alloc (Obj.cells #[u, v] 31)).cell? ⟨w1.heap.size, 0, none⟩ = some u ∧ (w1.alloc (Obj.cells #[u, v] 31)).cell? ⟨w1.heap.size, 1, none⟩ = some v ∧ w1.heap.size < (w1.alloc (Obj.cells #[u, v] 31)).heap.size ∧ ¬ foot sb bm a w1.heap.size := by
  refine ⟨h.kept ((Below.refl _ _).alloc (Nat.le_refl _) _), hb.alloc ?_ _, by simp, by simp, by simp, ?_⟩
  · have := h.ltsb; have := h.hsb; omega
  · have h1 := h.ltsb
    have h2 := h.ltbm
    intro hF
    rcases hF with hF | hF | hF
    · omega
    · omega
    · have := (h.own.lt w1.heap.size (by rw [ob_eq]; exact hF)).2
      omega

/-- What is handed on from one Add to the next: the set, the frame, a box of the caller's. -/
structure Step (B : Nat) (w0 w : World) (sb bm : Nat) (a : Option Addr) (cap : Nat) (l : List (Int × Int)) (D : DataW Unit) (n : Nat) (u v : Value) : Prop where
  inv : SetInv B w sb bm a cap l D
  bel : Below B w0 w
  c0 : w.cell? ⟨n, 0, none⟩ = some u
  c1 : w.cell? ⟨n, 1, none⟩ = some v
  lt : n < w.heap.size
  far : ¬ foot sb bm a n

theorem Step.added {w0 : World} {n : Nat} {u v : Value} {x y : Int} {e : Ending} (h : Step B w0 w sb bm a cap l D n u v) (hA : Added w B sb bm a l D x y e w') :
    ∃ a' cap', e = .returned (.tuple #[.int .i64 l.length, .int .i64 0]) ∧ Step B w0 w' sb bm a' cap' (l ++ [(nrm x, nrm y)]) (D.put (kl (nrm x) (nrm y)) (.lit (.int .i64 l.length))) n u v := by
  obtain ⟨a', cap', he, h', hb, ho, hf⟩ := hA
  refine ⟨a', cap', he, h', h.bel.trans hb, ?_, ?_, ?_, fun hF => h.far (hf n h.lt hF)⟩
  · rw [out_cell ho h.lt h.far]; exact h.c0
  · rw [out_cell ho h.lt h.far]; exact h.c1
  · have := hb.size; have := h.lt; omega

theorem Step.kept {w0 : World} {n : Nat} {u v : Value} (h : Step B w0 w sb bm a cap l D n u v) (hb : Below w.heap.size w w') : Step B w0 w' sb bm a cap l D n u v := by
  refine ⟨h.inv.kept hb, h.bel.trans (hb.mono ?_), ?_, ?_, ?_, h.far⟩
  · have := h.inv.ltsb; have := h.inv.hsb; omega
  · rw [hb.cell (p := ⟨n, 0, none⟩) h.lt]; exact h.c0
  · rw [hb.cell (p := ⟨n, 1, none⟩) h.lt]; exact h.c1
  · have := hb.size; have := h.lt; omega

def D1 : DataW Unit := (DataW.map []).put (kl 0 0) (.lit (.int .i64 0))
def D2 : DataW Unit := D1.put (kl 4607182418800017408 0) (.lit (.int .i64 1))

theorem kl01 : kl 4607182418800017408 0 ≠ kl 0 0 := kl_ne in1 in0 in0 in0 (.inl (by decide))
theorem isMap1 : IsMap D1 := isMap_empty.put _ _
theorem has1 : Maps.has D1 (kl 4607182418800017408 0) = false := by
  unfold D1
  rw [has_put_other kl01]
  exact has_nil _
theorem has2 : Maps.has D2 (kl 4607182418800017408 0) = true := has_put_same isMap1 (kl_key _ _) _
theorem mval2 : mval D2 (kl 4607182418800017408 0) = 1 := mval_put_same isMap1 _ _ _
theorem tidy1 : Tidy D1 := tidy_empty.put (kl_key _ _) _
theorem size2 : Maps.size D2 = 2 := by
  unfold D2
  rw [size_put tidy1, has1]
  unfold D1
  rw [size_put tidy_empty, has_nil]
  rfl

theorem alive_first {w1 : World} (h : SetInv B w1 sb bm none 0 [] (.map [])) :
    Calls Try.prog 7 #[.pointer (some ⟨sb, 0, none⟩), .agg #[.int .i64 0, .int .i64 0]] w1 (Added w1 B sb bm none [] (.map []) 0 0) :=
  add_new h 0 0 ok0 in0 in0 (has_nil _) (by decide)

set_option maxHeartbeats 800000 in
theorem alive_true (w : World) :
    Calls Try.prog 5 #[] w fun e w' => e = .returned (.bool true) ∧ Below w.heap.size w w' := by
  go_enter Try.func5, Try.ntmps5
  go_wp2_with fail
  refine (new_any _).mono ?_
  rintro e w1 ⟨rfl, h1, hb1⟩
  have H1 := Lib.hid h1
  have B1 := Lib.hid hb1
  clear h1 hb1
  go_wp2_with fail
  obtain ⟨h2, b2, c0, c1, lt, far⟩ := alive_start (u := .int .i64 4607182418800017408) (v := .int .i64 0) H1.out B1.out
  have s2 := Lib.hid (Step.mk h2 b2 c0 c1 lt far)
  clear h2 b2 c0 c1 lt far H1 B1
  generalize w1.alloc (Obj.cells #[Value.int IntKind.i64 4607182418800017408, Value.int IntKind.i64 0] 31) = w2 at *
  refine (alive_first s2.out.inv).mono ?_
  intro e w3 hA
  obtain ⟨a3, cap3, rfl, s3'⟩ := s2.out.added hA
  have s3 : Step _ _ _ _ _ _ _ [(0, 0)] D1 _ _ _ := s3'
  have d0 := s3.c0
  have d1 := s3.c1
  have S3 := Lib.hid s3
  clear s3' s3 hA s2
  go_wp2_with fail
  clear d0 d1
  refine (add_new S3.out.inv _ _ ok1 in1 in0 has1 (by decide)).mono ?_
  intro e w4 hA
  obtain ⟨a4, cap4, rfl, s4'⟩ := S3.out.added hA
  have s4 : Step _ _ _ _ _ _ _ [(0, 0), (4607182418800017408, 0)] D2 _ _ _ := s4'
  have d0 := s4.c0
  have d1 := s4.c1
  have S4 := Lib.hid s4
  clear s4' s4 hA S3
  go_wp2_with fail
  clear d0 d1
  refine (add_same S4.out.inv _ _ ok1 in1 in0 has2).mono ?_
  rintro e w5 ⟨rfl, hb5⟩
  have S5 := Lib.hid (S4.out.kept hb5)
  clear S4 hb5
  have hm : mval D2 (kl (nrm 4607182418800017408) (nrm 0)) = 1 := mval2
  rw [hm]
  clear hm
  go_wp2_with fail
  refine (len_any S5.out.inv).mono ?_
  rintro e w6 ⟨rfl, rfl⟩
  rw [size2]
  go_wp2
  go_ret
  exact ⟨rfl, S5.out.bel⟩

end Go.Proofs.Ytjenkhdphglidaa
