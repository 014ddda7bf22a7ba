/- What holds of the points and the places of a set, whatever is called: plain law. -/
import Derived.Test.YtjenkhdphglidaaV
import Derived.Test.YtjenkhdphglidaaH
import Derived.Test.YtjenkhdphglidaaC
namespace Go.Proofs.Ytjenkhdphglidaa
open Go.RowKit Go.Maps

/-- Each point that was given is finite and bears no -0; each key's number tells its point. -/
structure Good (l : List (Int × Int)) (D : DataW Unit) : Prop where
  isMap : IsMap D
  pts : ∀ p ∈ l, okP p.1 p.2 = true ∧ nrm p.1 = p.1 ∧ nrm p.2 = p.2
  keys : ∀ x y, InR x → InR y → Maps.has D (kl x y) = true → ∃ i : Nat, i < l.length ∧ mval D (kl x y) = i ∧ l.getD i (0, 0) = (x, y)

theorem good_nil : Good [] (.map []) := ⟨isMap_empty, by simp, fun x y _ _ h => by rw [has_nil] at h; cases h⟩

theorem okP_nrm {x y : Int} (h : okP x y = true) : okP (nrm x) (nrm y) = true := by
  unfold okP at *
  rw [Bool.and_eq_true] at *
  exact ⟨fin_nrm h.1, fin_nrm h.2⟩

theorem getD_snoc_lt {l : List (Int × Int)} {i : Nat} (p : Int × Int) (h : i < l.length) : (l ++ [p]).getD i (0, 0) = l.getD i (0, 0) := by
  simp [List.getD, List.getElem?_append_left h]
theorem getD_snoc_eq {l : List (Int × Int)} (p : Int × Int) : (l ++ [p]).getD l.length (0, 0) = p := by
  simp [List.getD]

theorem Good.put {l : List (Int × Int)} {D : DataW Unit} (g : Good l D) {x y : Int} (hp : okP x y = true) (hx : InR x) (hy : InR y) :
    Good (l ++ [(nrm x, nrm y)]) (D.put (kl (nrm x) (nrm y)) (.lit (.int .i64 l.length))) := by
  refine ⟨g.isMap.put _ _, ?_, ?_⟩
  · intro p hpm
    rcases List.mem_append.1 hpm with h | h
    · exact g.pts p h
    · simp at h
      subst h
      exact ⟨okP_nrm hp, nrm_nrm x, nrm_nrm y⟩
  · intro u v hu hv hh
    by_cases e : kl u v = kl (nrm x) (nrm y)
    · obtain ⟨rfl, rfl⟩ := kl_inj hu hv (nrm_range hx) (nrm_range hy) e
      exact ⟨l.length, by simp, mval_put_same g.isMap _ _ _, getD_snoc_eq _⟩
    · rw [has_put_other e] at hh
      obtain ⟨i, h1, h2, h3⟩ := g.keys u v hu hv hh
      exact ⟨i, by simp; omega, by rw [mval_put_other e]; exact h2, by rw [getD_snoc_lt _ h1]; exact h3⟩

theorem Good.del {l : List (Int × Int)} {D : DataW Unit} (g : Good l D) {x y : Int} (hx : InR x) (hy : InR y) : Good l (D.del (kl x y)) := by
  refine ⟨g.isMap.del _, g.pts, ?_⟩
  intro u v hu hv hh
  by_cases e : kl u v = kl x y
  · rw [e, has_del_same] at hh; cases hh
  · rw [has_del_other e] at hh
    obtain ⟨i, h1, h2, h3⟩ := g.keys u v hu hv hh
    exact ⟨i, h1, by rw [mval_del_other e]; exact h2, h3⟩

theorem Good.alv {l : List (Int × Int)} {D : DataW Unit} (g : Good l D) {x y : Int} (hx : InR x) (hy : InR y) (hh : Maps.has D (kl x y) = true) :
    ∃ i : Nat, mval D (kl x y) = i ∧ i < l.length ∧ l.getD i (0, 0) = (x, y) ∧ alv l D i = true := by
  obtain ⟨i, h1, h2, h3⟩ := g.keys x y hx hy hh
  refine ⟨i, h2, h1, h3, ?_⟩
  unfold Ytjenkhdphglidaa.alv
  have e : (i : Int).toNat = i := by omega
  rw [e, h3]
  simp [hh, h2, h1]

/-- What Add comes to, in one word. -/
def AddRes (B : Nat) (w w' : World) (sb bm : Nat) (a : Option Addr) (cap : Nat) (l : List (Int × Int)) (D : DataW Unit) (x y id ec : Int) : Prop :=
  (ec = 10 ∧ okP x y = false ∧ Below w.heap.size w w') ∨
  (ec = 20 ∧ okP x y = true ∧ Below w.heap.size w w' ∧ ∃ i : Nat, id = i ∧ alv l D i = true ∧ l.getD i (0, 0) = (nrm x, nrm y)) ∨
  (ec = 0 ∧ okP x y = true ∧ id = l.length ∧ Below B w w' ∧ ∃ a' cap', SetInv B w' sb bm a' cap' (l ++ [(nrm x, nrm y)]) (D.put (kl (nrm x) (nrm y)) (.lit (.int .i64 l.length))))

theorem add_any {B : Nat} {w : World} {sb bm : Nat} {a : Option Addr} {cap : Nat} {l : List (Int × Int)} {D : DataW Unit} (h : SetInv B w sb bm a cap l D) (g : Good l D) (hl : l.length < 65536) {x y : Int} (hx : InR x) (hy : InR y) :
    Calls Try.prog 7 #[.pointer (some ⟨sb, 0, none⟩), .agg #[.int .i64 x, .int .i64 y]] w fun e w' => ∃ id ec : Int, e = .returned (.tuple #[.int .i64 id, .int .i64 ec]) ∧ AddRes B w w' sb bm a cap l D x y id ec := by
  cases hp : okP x y
  · exact (add_wild x y hp).mono fun e w' ⟨he, hb⟩ => ⟨_, _, he, .inl ⟨rfl, hp, hb⟩⟩
  · cases hh : Maps.has D (kl (nrm x) (nrm y))
    · exact (add_new h x y hp hx hy hh (by simp; omega)).mono fun e w' ⟨a', cap', he, hi, hb, _⟩ => ⟨_, _, he, .inr (.inr ⟨rfl, hp, rfl, hb, a', cap', hi⟩)⟩
    · obtain ⟨i, h1, _, h3, h4⟩ := g.alv (nrm_range hx) (nrm_range hy) hh
      exact (add_same h x y hp hx hy hh).mono fun e w' ⟨he, hb⟩ => ⟨_, _, he, .inr (.inl ⟨rfl, hp, hb, i, h1, h4, h3⟩)⟩

end Go.Proofs.Ytjenkhdphglidaa
