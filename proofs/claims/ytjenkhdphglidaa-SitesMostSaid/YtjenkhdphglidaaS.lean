/- What a set of sites is in memory. -/
import Derived.Test.YtjenkhdphglidaaRows
import Derived.Test.YtjenkhdphglidaaF
import Derived.WalkKit
import Derived.WalkSmall
import Derived.Maps.OwnSet
import Derived.DeepKeys4
namespace Go.Proofs.Ytjenkhdphglidaa
open Go.RowKit Go.Maps

theorem Try.laidOut : laidOutB Try.prog = true := by kernel_rfl
theorem row31 : (31 : TypeId) < Try.prog.types.size := of_decide_eq_true (by kernel_rfl)
theorem wide31 : (match Try.prog.underlying 31 with | some (.array _ _) | some (.struct _) => true | _ => false) = true := by rw [Try.underlying31]
theorem law31 : Keyed Try.prog 31 := Keyed.of_law (deep_law_laid Try.laidOut (m := 2) (by omega) row31 (by kernel_rfl) wide31)
theorem zero3 (w : World) : (zeroValue 3).run Try.prog w = .ok (.int .i64 0) w := by kernel_rfl
theorem Try.info31 : (Try.prog.info? 31).map (fun i => (i.zero, i.size, i.bytes)) = some (some (.agg #[.int .i64 0, .int .i64 0]), 2, 16) := by kernel_rfl

/-- A coordinate's place in Go's int. -/
def InR (x : Int) : Prop := -9223372036854775808 ≤ x ∧ x ≤ 9223372036854775807

/-- A point as a map's key. -/
def kl (x y : Int) : Lit := .string (keyBytes [.int .i64 x, .int .i64 y])

theorem keyT31 : Try.prog.keyType 31 = true := by kernel_rfl
theorem cells31 : Try.prog.cellsOf 31 = 2 := by kernel_rfl
theorem cells3 : Try.prog.cellsOf 3 = 1 := by kernel_rfl
theorem size_types : Try.prog.types.size = 81 := by kernel_rfl

theorem keyLits_int (d : Nat) {x : Int} (w1 : (Lit.int .i64 x).wf = true) : Try.prog.keyLits (d + 1) 3 [.int .i64 x] = some [.int .i64 x] := by
  unfold Program.keyLits
  rw [Try.underlying3]
  simp only
  rw [if_pos ⟨trivial, w1⟩]

theorem keyLits_point (d : Nat) {x y : Int} (w1 : (Lit.int .i64 x).wf = true) (w2 : (Lit.int .i64 y).wf = true) : Try.prog.keyLits (d + 2) 31 [.int .i64 x, .int .i64 y] = some [.int .i64 x, .int .i64 y] := by
  unfold Program.keyLits
  rw [Try.underlying31]
  simp only [cells31]
  simp [cells3, keyLits_int d w1, keyLits_int d w2]

theorem keyOf_point {x y : Int} (hx : InR x) (hy : InR y) : keyOf Try.prog 31 (.agg #[.int .i64 x, .int .i64 y]) = some (kl x y) := by
  have w1 : (Lit.int .i64 x).wf = true := WalkArith.wf_i64 (by unfold InR at hx; omega)
  have w2 : (Lit.int .i64 y).wf = true := WalkArith.wf_i64 (by unfold InR at hy; omega)
  unfold keyOf
  rw [Try.underlying31, keyT31, size_types]
  have hf : (Value.agg #[.int .i64 x, .int .i64 y]).formed Try.prog 31 = true := by simp [Value.formed, Try.underlying31, cells31]
  have hc : (Value.agg #[.int .i64 x, .int .i64 y]).cells.toList = [.int .i64 x, .int .i64 y] := rfl
  rw [hf, hc, keyLits_point 80 w1 w2]
  rfl

theorem kl_inj {x y u v : Int} (hx : InR x) (hy : InR y) (hu : InR u) (hv : InR v) (h : kl x y = kl u v) : x = u ∧ y = v := by
  have := law31.inj (keyOf_point hx hy) (by rw [h]; exact keyOf_point hu hv)
  simpa using this

theorem kl_key (x y : Int) : WideAt.IsKeyLit (kl x y) := trivial

/-- The number that the datum of a map holds at a key (0: none). -/
def mval (D : DataW Unit) (k : Lit) : Int := match D.atKey k (.lit (.int .i64 0)) with | .lit (.int _ c) => c | _ => 0

noncomputable abbrev Elem : Value → Option (DataW Unit × List MemPlace) := plainElem Try.prog 3

theorem look_run {w : World} {bm n : Nat} {D : DataW Unit} (h : w.ownsMap Try.prog 31 Elem bm n D) {x y : Int} (hx : InR x) (hy : InR y) :
    (Instr.lookup 46 (.map (some bm)) (.agg #[.int .i64 x, .int .i64 y]) true).run Try.prog w = .ok (.tuple #[.int .i64 (mval D (kl x y)), .bool (Maps.has D (kl x y))]) w ∧ InR (mval D (kl x y)) := by
  obtain ⟨v, ps, hrun, hv⟩ := h.look_ok law31 Try.underlying46 (zero3 w) (zd := .lit (.int .i64 0)) (zp := []) (plainElem_int Try.underlying3 (by decide)) (keyOf_point hx hy)
  obtain ⟨c, rfl, hc, hwc⟩ := plainElem_int_inv Try.underlying3 hv
  have e : mval D (kl x y) = c := by
    unfold mval
    rw [show D.atKey (kl x y) (.lit (.int .i64 0)) = .lit (.int .i64 c) from congrArg Prod.fst hc]
  rw [e]
  refine ⟨hrun, ?_⟩
  simp only [Lit.wf, IntKind.min, IntKind.max, IntKind.signed, IntKind.bits, Bool.and_eq_true, decide_eq_true_eq] at hwc
  unfold InR
  obtain ⟨h1, h2⟩ := hwc
  simp at h1 h2
  omega

theorem mval_put_same {D : DataW Unit} (hD : IsMap D) (x y id : Int) : mval (D.put (kl x y) (.lit (.int .i64 id))) (kl x y) = id := by
  unfold mval; rw [atKey_put_same hD (kl_key x y)]
theorem mval_put_other {D : DataW Unit} {k k' : Lit} (hne : k' ≠ k) (d : DataW Unit) : mval (D.put k d) k' = mval D k' := by
  unfold mval; rw [atKey_put_other hne]
theorem mval_del_other {D : DataW Unit} {k k' : Lit} (hne : k' ≠ k) : mval (D.del k) k' = mval D k' := by
  unfold mval; rw [atKey_del_other hne]

/-- The cells of points. -/
def pcells (l : List (Int × Int)) : List Value := l.flatMap fun p => [.int .i64 p.1, .int .i64 p.2]

theorem pcells_length (l : List (Int × Int)) : (pcells l).length = l.length * 2 := by
  induction l with
  | nil => rfl
  | cons p r ih => simp [pcells] at *; omega

theorem pcells_snoc (l : List (Int × Int)) (x y : Int) : pcells (l ++ [(x, y)]) = pcells l ++ [.int .i64 x, .int .i64 y] := by simp [pcells]

theorem pcells_fst : ∀ (l : List (Int × Int)) (i : Nat) (_ : i < l.length), (pcells l)[2 * i]? = some (.int .i64 (l.getD i (0, 0)).1)
  | [], i, h => by simp at h
  | p :: r, 0, _ => by simp [pcells]
  | p :: r, i + 1, h => by
    have := pcells_fst r i (by simpa using h)
    rw [show 2 * (i + 1) = 2 * i + 1 + 1 from by omega]
    simpa [pcells] using this
theorem pcells_snd : ∀ (l : List (Int × Int)) (i : Nat) (_ : i < l.length), (pcells l)[2 * i + 1]? = some (.int .i64 (l.getD i (0, 0)).2)
  | [], i, h => by simp at h
  | p :: r, 0, _ => by simp [pcells]
  | p :: r, i + 1, h => by
    have := pcells_snd r i (by simpa using h)
    rw [show 2 * (i + 1) + 1 = 2 * i + 1 + 1 + 1 from by omega]
    simpa [pcells] using this

/-- WHAT A SET IS IN MEMORY: its block sb (the slice of its points, the map of its places), the map's block bm, the points l that were given, the map's datum D. -/
structure SetInv (B : Nat) (w : World) (sb bm : Nat) (a : Option Addr) (cap : Nat) (l : List (Int × Int)) (D : DataW Unit) : Prop where
  hsb : B ≤ sb
  hbm : B ≤ bm
  blk : w.heap[sb]? = some (.cells #[.slice a l.length cap, .map (some bm)] 48 (0, 0))
  own : w.ownsRow B 31 2 (.slice a l.length cap) l.length (pcells l)
  map : w.ownsMap Try.prog 31 Elem bm l.length D
  rng : ∀ p ∈ l, InR p.1 ∧ InR p.2

/-- Is the site alive? -/
def alv (l : List (Int × Int)) (D : DataW Unit) (id : Int) : Bool :=
  decide (0 ≤ id) && decide (id < l.length) && (Maps.has D (kl (l.getD id.toNat (0, 0)).1 (l.getD id.toNat (0, 0)).2) && mval D (kl (l.getD id.toNat (0, 0)).1 (l.getD id.toNat (0, 0)).2) == id)

variable {B : Nat} {w w' : World} {sb bm : Nat} {a : Option Addr} {cap : Nat} {l : List (Int × Int)} {D : DataW Unit}

theorem SetInv.cell0 (h : SetInv B w sb bm a cap l D) : w.cell? ⟨sb, 0, none⟩ = some (.slice a l.length cap) := by simp [World.cell?, h.blk]
theorem SetInv.cell1 (h : SetInv B w sb bm a cap l D) : w.cell? ⟨sb, 1, none⟩ = some (.map (some bm)) := by simp [World.cell?, h.blk]
theorem SetInv.free0 (h : SetInv B w sb bm a cap l D) : w.frozen? ⟨sb, 0, none⟩ = false := by simp [World.frozen?, h.blk]
theorem SetInv.ltsb (h : SetInv B w sb bm a cap l D) : sb < w.heap.size := lt_of_block h.blk
theorem SetInv.ltbm (h : SetInv B w sb bm a cap l D) : bm < w.heap.size := h.map.lt

theorem SetInv.point (h : SetInv B w sb bm a cap l D) {i : Nat} (hi : i < l.length) :
    ∃ g, a = some ⟨g, 0, none⟩ ∧ w.cell? ⟨g, i * 2, none⟩ = some (.int .i64 (l.getD i (0, 0)).1) ∧ w.cell? ⟨g, i * 2 + 1, none⟩ = some (.int .i64 (l.getD i (0, 0)).2) := by
  have hown := h.own
  rcases hown.2 with ⟨_, h0⟩ | ⟨g, cap', cur, hv, _, _, _, _, _, _⟩
  · omega
  · have ha : a = some ⟨g, 0, none⟩ := by injection hv
    subst ha
    have e : ∀ j, (⟨g, 0, none⟩ : Addr).add j = ⟨g, j, none⟩ := fun j => by
      unfold Addr.add
      split <;> simp_all
    refine ⟨g, rfl, ?_, ?_⟩
    · have := hown.cells (g := g) rfl _ _ (pcells_fst l i hi)
      rwa [e, Nat.mul_comm] at this
    · have := hown.cells (g := g) rfl _ _ (pcells_snd l i hi)
      rwa [e, Nat.mul_comm] at this

theorem grown_of_below (h : Below w.heap.size w w') : w.grownBy w' none := ⟨h.os, h.tape, h.output, h.size, fun b hb _ => h.block b hb⟩

theorem SetInv.kept (h : SetInv B w sb bm a cap l D) (hb : Below w.heap.size w w') : SetInv B w' sb bm a cap l D :=
  ⟨h.hsb, h.hbm, by rw [hb.block sb h.ltsb]; exact h.blk, h.own.kept (grown_of_below hb) (by
    rcases ho : Value.ownBlock (.slice a l.length cap) with _ | k
    · exact .inl rfl
    · exact .inr (by simp)), h.map.kept (grown_of_below hb) (by simp), h.rng⟩

theorem SetInv.ne (h : SetInv B w sb bm a cap l D) : sb ≠ bm := by
  intro e
  obtain ⟨es, c, hb, _⟩ := h.map
  have := h.blk
  rw [e, hb] at this
  cases this

theorem SetInv.ownNe (h : SetInv B w sb bm a cap l D) : Value.ownBlock (.slice a l.length cap) ≠ some bm ∧ Value.ownBlock (.slice a l.length cap) ≠ some sb := by
  rcases h.own.2 with ⟨hv, _⟩ | ⟨g, cap', cur, hv, _, hg, _⟩
  · rw [hv]; simp [Value.ownBlock]
  · rw [hv]
    simp only [Value.ownBlock, ne_eq, Option.some.injEq]
    constructor
    · intro e
      obtain ⟨es, c, hb, _⟩ := h.map
      rw [e, hb] at hg
      cases hg
    · intro e
      rw [e, h.blk] at hg
      simp at hg

/-- The map's entries alone have turned. -/
theorem SetInv.mapped {D' : DataW Unit} (h : SetInv B w sb bm a cap l D) (hg : w.grownBy w' (some bm)) (hm : w'.ownsMap Try.prog 31 Elem bm l.length D') : SetInv B w' sb bm a cap l D' :=
  ⟨h.hsb, h.hbm, by rw [hg.block sb h.ltsb (by simpa using h.ne)]; exact h.blk, h.own.kept hg (.inr h.ownNe.1), hm, h.rng⟩

theorem SetInv.range (h : SetInv B w sb bm a cap l D) {i : Nat} (hi : i < l.length) : InR (l.getD i (0, 0)).1 ∧ InR (l.getD i (0, 0)).2 := by
  refine h.rng _ ?_
  have e : l.getD i (0, 0) = l[i] := by simp [List.getD, hi]
  rw [e]
  exact List.getElem_mem hi

end Go.Proofs.Ytjenkhdphglidaa
