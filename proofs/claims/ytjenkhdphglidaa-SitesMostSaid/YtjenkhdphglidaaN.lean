/- The walk of Add. -/
import Derived.Test.YtjenkhdphglidaaM
import Derived.Deep.AppendLies
import Derived.Deep.RegionLaw
import Derived.Deep.RegionHeldLaw
import Derived.Deep.Cut
import Derived.Deep.CutBlock
namespace Go.Proofs.Ytjenkhdphglidaa
open Go.RowKit Go.Maps

variable {B : Nat} {w w' : World} {sb bm : Nat} {a : Option Addr} {cap : Nat} {l : List (Int × Int)} {D : DataW Unit}

/-- Behind the box of an argument and a call that makes memory: the box. -/
theorem one_box {w w1 : World} {u v : Value} {t : TypeId} (hb : Below (w.alloc (Obj.cells #[u, v] t)).heap.size (w.alloc (Obj.cells #[u, v] t)) w1) :
    w1.cell? ⟨w.heap.size, 0, none⟩ = some u ∧ w1.cell? ⟨w.heap.size, 1, none⟩ = some v ∧ w1.frozen? ⟨w.heap.size, 0, none⟩ = false ∧ w1.frozen? ⟨w.heap.size, 1, none⟩ = false ∧ w.heap.size < w1.heap.size ∧ Below w.heap.size w w1 := by
  obtain ⟨hc, hf⟩ := bcell hb
  refine ⟨?_, ?_, ?_, ?_, ?_, ?_⟩
  · rw [hc _ _ (by simp)]; simp
  · rw [hc _ _ (by simp)]; simp
  · rw [hf _ _ (by simp)]; simp
  · rw [hf _ _ (by simp)]; simp
  · have := hb.size; simp at this; omega
  · exact ((Below.refl _ _).alloc (Nat.le_refl _) _).trans (hb.mono (by simp))

set_option maxHeartbeats 400000 in
theorem add_wild (x y : Int) (hp : okP x y = false) :
    Calls Try.prog 7 #[.pointer (some ⟨sb, 0, none⟩), .agg #[.int .i64 x, .int .i64 y]] w fun e w' => e = .returned (.tuple #[.int .i64 0, .int .i64 10]) ∧ Below w.heap.size w w' := by
  go_enter Try.func7, Try.ntmps7
  go_wp2_with (go_at_call 18; refine (normalP_no _ _ _ hp).mono ?_; rintro e w1 ⟨rfl, hb⟩; obtain ⟨c0, c1, f0, f1, hz, hb'⟩ := one_box hb; clear hb)
  go_ret2
  exact ⟨rfl, (hb'.setCell (by simp) _).setCell (by simp) _⟩

/-- Behind Normal's answer: the box holds the point with 0 for -0. -/
theorem box_set {w w1 : World} {n : Nat} {u v u0 v0 : Value} (c0 : w1.cell? ⟨n, 0, none⟩ = some u0) (c1 : w1.cell? ⟨n, 1, none⟩ = some v0) (hn : n = w.heap.size) (hb : Below w.heap.size w w1) :
    ((w1.setCell ⟨n, 0, none⟩ u).setCell ⟨n, 1, none⟩ v).cell? ⟨n, 0, none⟩ = some u ∧ ((w1.setCell ⟨n, 0, none⟩ u).setCell ⟨n, 1, none⟩ v).cell? ⟨n, 1, none⟩ = some v ∧ Below w.heap.size w ((w1.setCell ⟨n, 0, none⟩ u).setCell ⟨n, 1, none⟩ v) := by
  refine ⟨by simp [c0, go_sem], by simp [c1, go_sem], (hb.setCell (by simp; omega) _).setCell (by simp; omega) _⟩

set_option maxHeartbeats 400000 in
theorem add_same (h : SetInv B w sb bm a cap l D) (x y : Int) (hp : okP x y = true) (hx : InR x) (hy : InR y) (hh : Maps.has D (kl (nrm x) (nrm y)) = true) :
    Calls Try.prog 7 #[.pointer (some ⟨sb, 0, none⟩), .agg #[.int .i64 x, .int .i64 y]] w fun e w' => e = .returned (.tuple #[.int .i64 (mval D (kl (nrm x) (nrm y))), .int .i64 20]) ∧ Below w.heap.size w w' := by
  have HL := Lib.hid (fun (w2 : World) (n : Nat) (h2 : SetInv B w2 sb bm a cap l D) => (look_run (w := w2.drewN n) h2.map (nrm_range hx) (nrm_range hy)).1)
  have H1 := Lib.hid h
  clear h
  go_enter Try.func7, Try.ntmps7
  go_wp2_with (go_at_call 18; refine (normalP_yes _ _ _ hp).mono ?_; rintro e w1 ⟨rfl, hb⟩; obtain ⟨c0, c1, f0, f1, hz, hb'⟩ := one_box hb; clear hb)
  obtain ⟨q0, q1, hb2⟩ := box_set (u := .int .i64 (nrm x)) (v := .int .i64 (nrm y)) c0 c1 rfl hb'
  clear c0 c1 f0 f1 hb' hz
  generalize (w1.setCell { block := w.heap.size, off := 0 } (Value.int IntKind.i64 (nrm x))).setCell { block := w.heap.size, off := 1 } (Value.int IntKind.i64 (nrm y)) = w2 at *
  have h2 := H1.out.kept hb2
  have c0 := h2.cell0
  have c1 := h2.cell1
  have hlook := fun n => HL.out w2 n h2
  clear h2
  go_quiet (fail)
  go_wp2
  go_ret2
  exact ⟨rfl, below_drewN hb2 _⟩

set_option maxHeartbeats 400000 in
theorem add_many (h : SetInv B w sb bm a cap l D) (x y : Int) (hp : okP x y = true) (hx : InR x) (hy : InR y) (hh : Maps.has D (kl (nrm x) (nrm y)) = false) (hn : (65536 : Int) ≤ l.length) :
    Calls Try.prog 7 #[.pointer (some ⟨sb, 0, none⟩), .agg #[.int .i64 x, .int .i64 y]] w fun e w' => e = .returned (.tuple #[.int .i64 0, .int .i64 22]) ∧ Below w.heap.size w w' := by
  have HL := Lib.hid (fun (w2 : World) (n : Nat) (h2 : SetInv B w2 sb bm a cap l D) => (look_run (w := w2.drewN n) h2.map (nrm_range hx) (nrm_range hy)).1)
  have H1 := Lib.hid h
  clear h
  go_enter Try.func7, Try.ntmps7
  go_wp2_with (go_at_call 18; refine (normalP_yes _ _ _ hp).mono ?_; rintro e w1 ⟨rfl, hb⟩; obtain ⟨c0, c1, f0, f1, hz, hb'⟩ := one_box hb; clear hb)
  obtain ⟨q0, q1, hb2⟩ := box_set (u := .int .i64 (nrm x)) (v := .int .i64 (nrm y)) c0 c1 rfl hb'
  clear c0 c1 f0 f1 hb' hz
  generalize (w1.setCell { block := w.heap.size, off := 0 } (Value.int IntKind.i64 (nrm x))).setCell { block := w.heap.size, off := 1 } (Value.int IntKind.i64 (nrm y)) = w2 at *
  have h2 := H1.out.kept hb2
  have c0 := h2.cell0
  have c1 := h2.cell1
  have hlook := fun n => HL.out w2 n h2
  clear h2
  go_quiet (fail)
  go_wp2
  go_ret2
  exact ⟨rfl, below_drewN hb2 _⟩

theorem SetInv.ownOld (h : SetInv B w sb bm a cap l D) : Value.ownBlock (.slice a l.length cap) ≠ some w.heap.size := fun e => by
  have := (h.own.lt _ e).2
  omega

/-- What the walk of Add wants of the world ahead of the append. -/
theorem add_facts {w3 : World} {n : Nat} {u v : Value} (h : SetInv B w sb bm a cap l D) (hw : w3 = w'.drewN n) (hb : Below w.heap.size w w') (q0 : w'.cell? ⟨w.heap.size, 0, none⟩ = some u) (q1 : w'.cell? ⟨w.heap.size, 1, none⟩ = some v) :
    SetInv B w3 sb bm a cap l D ∧ Below w.heap.size w w3 ∧ w3.cell? ⟨w.heap.size, 0, none⟩ = some u ∧ w3.cell? ⟨w.heap.size, 1, none⟩ = some v ∧ w.heap.size < w3.heap.size := by
  subst hw
  exact ⟨(h.kept hb).drewN n, below_drewN hb n, q0, q1, World.block_lt_of_cell? (w'.drewN n) _ q0⟩

/-- Behind the append: the set's own block and the argument's box are as they were. -/
theorem add_grown {w3 w4 : World} {o : Obj} {n : Nat} {v u0 u1 : Value} (hg : (w3.alloc o).drew.grownBy w4 v.ownBlock) (hsb : sb < w3.heap.size) (hn : n < w3.heap.size) (ns : v.ownBlock ≠ some sb) (no : v.ownBlock ≠ some n)
    (c0 : w3.cell? ⟨sb, 0, none⟩ = some v) (p0 : w3.cell? ⟨n, 0, none⟩ = some u0) (p1 : w3.cell? ⟨n, 1, none⟩ = some u1) (f0 : w3.frozen? ⟨sb, 0, none⟩ = false) :
    w4.cell? ⟨sb, 0, none⟩ = some v ∧ w4.cell? ⟨n, 0, none⟩ = some u0 ∧ w4.cell? ⟨n, 1, none⟩ = some u1 ∧ w4.frozen? ⟨sb, 0, none⟩ = false := by
  have e : ∀ b i, b < w3.heap.size → (w3.alloc o).drew.cell? ⟨b, i, none⟩ = w3.cell? ⟨b, i, none⟩ := fun b i h => by
    show (w3.alloc o).cell? _ = _
    exact World.cell?_alloc_past _ _ _ h
  refine ⟨?_, ?_, ?_, ?_⟩
  · rw [hg.cell_far _ (by simp; omega) (Ne.symm ns), e _ _ hsb]; exact c0
  · rw [hg.cell_far _ (by simp; omega) (Ne.symm no), e _ _ hn]; exact p0
  · rw [hg.cell_far _ (by simp; omega) (Ne.symm no), e _ _ hn]; exact p1
  · rw [hg.frozen_far _ (by simp; omega) (Ne.symm ns)]
    show (w3.alloc o).frozen? _ = _
    rw [World.frozen?_alloc_past _ _ _ hsb]; exact f0

/-- The blocks that a set has. -/
def foot (sb bm : Nat) (a : Option Addr) (b : Nat) : Prop := b = sb ∨ b = bm ∨ a.map (·.block) = some b

theorem ob_eq (a : Option Addr) (n c : Nat) : Value.ownBlock (.slice a n c) = a.map (·.block) := by cases a <;> rfl

/-- w' is w but for the blocks of F and new ones. -/
def Out (F : Nat → Prop) (w w' : World) : Prop := ∀ b, b < w.heap.size → ¬ F b → w'.heap[b]? = w.heap[b]?

/-- The set between the append and the map's store. -/
structure Mid (B : Nat) (w : World) (sb bm g cap n : Nat) (cs : List Value) (D : DataW Unit) : Prop where
  blk : w.heap[sb]? = some (.cells #[.slice (some ⟨g, 0, none⟩) (n + 1) cap, .map (some bm)] 48 (0, 0))
  own : w.ownsRow B 31 2 (.slice (some ⟨g, 0, none⟩) (n + 1) cap) (n + 1) cs
  map : w.ownsMap Try.prog 31 Elem bm n D

theorem two_setCell {w : World} {b : Nat} {u v x : Value} {t : TypeId} (h : w.heap[b]? = some (.cells #[u, v] t (0, 0))) : (w.setCell ⟨b, 0, none⟩ x).heap[b]? = some (.cells #[x, v] t (0, 0)) := by
  have hlt := lt_of_block h
  have h' : w.heap[b] = .cells #[u, v] t (0, 0) := by simpa [Array.getElem?_eq_getElem hlt] using h
  show (w.heap.modify b _)[b]? = _
  rw [Array.getElem?_eq_getElem (by simpa using hlt), Array.getElem_modify_self, h']
  rfl

theorem add_mid {w3 w4 : World} {o : Obj} {g cap' : Nat} {cs : List Value} (h : SetInv B w3 sb bm a cap l D) (hg : (w3.alloc o).drew.grownBy w4 (Value.ownBlock (.slice a l.length cap)))
    (hown : w4.ownsRow B 31 2 (.slice (some ⟨g, 0, none⟩) (l.length + 1) cap') (l.length + 1) cs) (v : Value) (hv : v = .slice (some ⟨g, 0, none⟩) (l.length + 1) cap') :
    Mid B (w4.setCell ⟨sb, 0, none⟩ v) sb bm g cap' l.length cs D ∧ Below B w3 (w4.setCell ⟨sb, 0, none⟩ v) ∧ Out (foot sb bm a) w3 (w4.setCell ⟨sb, 0, none⟩ v) := by
  subst hv
  have hblk : w4.heap[sb]? = some (.cells #[.slice a l.length cap, .map (some bm)] 48 (0, 0)) := by
    rw [hg.block sb (by have := h.ltsb; simp; omega) (Ne.symm h.ownNe.2)]
    show (w3.alloc o).heap[sb]? = _
    rw [Below.heap_alloc _ _ _ h.ltsb]; exact h.blk
  have hne : Value.ownBlock (.slice (some ⟨g, 0, none⟩) (l.length + 1) cap') ≠ some sb := by
    rcases hown.2 with ⟨_, h0⟩ | ⟨g', _, cur, hv, _, hgg, _⟩
    · omega
    · rw [hv]
      simp only [Value.ownBlock, ne_eq, Option.some.injEq]
      intro e
      rw [e, hblk] at hgg
      simp at hgg
  have hbl : Below B w3 w4 := by
    refine (((Below.refl B w3).alloc ?_ o).drew).grown hg ?_ ?_
    · have := h.ltsb; have := h.hsb; omega
    · have := h.ltsb; have := h.hsb; simp; omega
    · intro k hk; exact (h.own.lt k hk).1
  refine ⟨⟨two_setCell hblk, ownsRow_setCell_other hown (by simpa using hne) _, ?_⟩, hbl.setCell (by exact h.hsb) _, ?_⟩
  · exact ((h.map.alloc o).drew.kept hg (Ne.symm h.ownNe.1)).setCell (by simpa using h.ne.symm) _
  · intro b hb hF
    unfold foot at hF
    rw [Below.heap_setCell _ _ _ _ (fun e => hF (.inl e)), hg.block b (by simp; omega) (by rw [ob_eq]; exact fun e => hF (.inr (.inr e.symm)))]
    show (w3.alloc o).heap[b]? = _
    rw [Below.heap_alloc _ _ _ hb]

theorem add_end {w5 w6 : World} {g cap' : Nat} {x y : Int} {D' : DataW Unit} (h : SetInv B w sb bm a cap l D) (hm : Mid B w5 sb bm g cap' l.length (pcells l ++ [.int .i64 x, .int .i64 y]) D) (hb : Below B w w5)
    (hf : Out (foot sb bm a) w w5) (hs : w.heap.size ≤ w5.heap.size) (hat : Value.ownBlock (.slice a l.length cap) = some g ∨ w.heap.size ≤ g)
    (hg : w5.drew.grownBy w6 (some bm)) (hown : w6.ownsMap Try.prog 31 Elem bm (l.length + 1) D') (hx : InR x) (hy : InR y) :
    SetInv B w6 sb bm (some ⟨g, 0, none⟩) cap' (l ++ [(x, y)]) D' ∧ Below B w w6 ∧ Out (foot sb bm a) w w6 ∧ (∀ b, b < w.heap.size → foot sb bm (some ⟨g, 0, none⟩) b → foot sb bm a b) := by
  have hne : Value.ownBlock (.slice (some ⟨g, 0, none⟩) (l.length + 1) cap') ≠ some bm := by
    rcases hm.own.2 with ⟨_, h0⟩ | ⟨g', _, cur, hv, _, hgg, _⟩
    · omega
    · rw [hv]
      simp only [Value.ownBlock, ne_eq, Option.some.injEq]
      intro e
      obtain ⟨es, c, hb, _⟩ := hm.map
      rw [e, hb] at hgg
      cases hgg
  have hl : (l ++ [(x, y)]).length = l.length + 1 := by simp
  refine ⟨⟨h.hsb, h.hbm, ?_, ?_, ?_, ?_⟩, ?_, ?_, ?_⟩
  · rw [hl, hg.block sb (lt_of_block hm.blk) (by simpa using h.ne)]; exact hm.blk
  · rw [hl, pcells_snoc]
    exact World.ownsRow.kept (w := w5.drew) hm.own hg (.inr hne)
  · rw [hl]; exact hown
  · intro p hp
    rcases List.mem_append.1 hp with hp | hp
    · exact h.rng p hp
    · simp at hp; subst hp; exact ⟨hx, hy⟩
  · refine hb.drew.grown hg ?_ ?_
    · have := lt_of_block hm.blk; have := h.hsb; show B ≤ w5.heap.size; omega
    · intro k hk; simp at hk; subst hk; exact h.hbm
  · intro b hb' hF
    rw [hg.block b (by show b < w5.heap.size; omega) (fun e => hF (.inr (.inl (by simpa using e))))]
    exact hf b hb' hF
  · intro b hb' hF
    rcases hF with h1 | h1 | h1
    · exact .inl h1
    · exact .inr (.inl h1)
    · rw [ob_eq] at hat
      simp at h1
      subst h1
      rcases hat with hat | hat
      · exact .inr (.inr hat)
      · omega

/-- What Add leaves when a number is given. -/
def Added (w : World) (B sb bm : Nat) (a : Option Addr) (l : List (Int × Int)) (D : DataW Unit) (x y : Int) (e : Ending) (w' : World) : Prop :=
  ∃ a' cap', e = .returned (.tuple #[.int .i64 l.length, .int .i64 0]) ∧ SetInv B w' sb bm a' cap' (l ++ [(nrm x, nrm y)]) (D.put (kl (nrm x) (nrm y)) (.lit (.int .i64 l.length))) ∧ Below B w w' ∧ Out (foot sb bm a) w w' ∧ (∀ b, b < w.heap.size → foot sb bm a' b → foot sb bm a b)

set_option maxRecDepth 100000 in
set_option maxHeartbeats 800000 in
theorem add_new (h : SetInv B w sb bm a cap l D) (x y : Int) (hp : okP x y = true) (hx : InR x) (hy : InR y) (hh : Maps.has D (kl (nrm x) (nrm y)) = false) (hn : decide ((65536 : Int) ≤ (l.length : Int)) = false) :
    Calls Try.prog 7 #[.pointer (some ⟨sb, 0, none⟩), .agg #[.int .i64 x, .int .i64 y]] w (Added w B sb bm a l D x y) := by
  obtain ⟨i0, hi0, hz0, hz1, hz2⟩ := info_parts Try.info31
  have HL := Lib.hid (fun (w2 : World) (n : Nat) (h2 : SetInv B w2 sb bm a cap l D) => (look_run (w := w2.drewN n) h2.map (nrm_range hx) (nrm_range hy)).1)
  have H1 := Lib.hid h
  have HX := Lib.hid hx
  have HY := Lib.hid hy
  have hlen : l.length < 65536 := by have := of_decide_eq_false hn; omega
  have H63 := Lib.hid (show l.length + 1 ≤ maxLen by unfold maxLen; omega)
  have HBY := Lib.hid (show (l.length + 1) * 16 ≤ 140737488355328 by omega)
  have HLT := Lib.hid (show l.length < maxLen by unfold maxLen; omega)
  have HWF := Lib.hid (WalkArith.wf_i64 (n := (l.length : Int)) (by omega))
  have HK := Lib.hid (keyOf_point (nrm_range hx) (nrm_range hy))
  clear h hx hy hlen
  go_enter Try.func7, Try.ntmps7
  go_wp2_with (go_at_call 18; refine (normalP_yes _ _ _ hp).mono ?_; rintro e w1 ⟨rfl, hb⟩; obtain ⟨c0, c1, f0, f1, hz, hb'⟩ := one_box hb; clear hb)
  obtain ⟨q0, q1, hb2⟩ := box_set (u := .int .i64 (nrm x)) (v := .int .i64 (nrm y)) c0 c1 rfl hb'
  clear c0 c1 f0 f1 hb' hz
  generalize (w1.setCell { block := w.heap.size, off := 0 } (Value.int IntKind.i64 (nrm x))).setCell { block := w.heap.size, off := 1 } (Value.int IntKind.i64 (nrm y)) = w2 at *
  have h2 := H1.out.kept hb2
  have c0 := h2.cell0
  have c1 := h2.cell1
  have hlook := fun n => HL.out w2 n h2
  clear h2 HL
  go_quiet (fail)
  go_upto_region 10 with (fail)
  clear hlook c0 c1
  obtain ⟨w3, hw3⟩ : ∃ w3, w3 = w2.drewN nq := ⟨_, rfl⟩
  rw [← hw3]
  obtain ⟨h3, hb3, p0, p1, hlt⟩ := add_facts H1.out hw3 hb2 q0 q1
  clear hw3 q0 q1 hb2 hn
  have c0 := h3.cell0
  have c1 := h3.cell1
  have f0 := h3.free0
  have hown := h3.own
  obtain ⟨nm, ns⟩ := h3.ownNe
  have no := H1.out.ownOld
  have H3 := Lib.hid h3
  have hsb := h3.ltsb
  have hsB := h3.hsb
  clear h3
  go_region_law
    ((refine step_append_lies _ (by rfl) _ _ _ (by rfl) B 31 i0 _ 2 16 Try.underlying22 hi0 hz0 hz1 hz2 rfl (by omega) (.slice a l.length cap) l.length (pcells l) (by rfl) ((hown.alloc _).drew)
        ⟨w3.heap.size, 0, none⟩ 1 1 [.int .i64 (nrm x), .int .i64 (nrm y)] (by rfl) (by rfl) (World.news_of_block (cs := #[.int .i64 (nrm x), .int .i64 (nrm y)]) (t := 31) (fr := (0, 0)) (heap_alloc_new w3 _)) (by simp [Value.oneCell'])
        (by omega) H63.out HBY.out (by simp; omega) (w3.heap.size + 1) (by simp) ?_; intro gg cap' w4 hown1 hgrow hat hlt4; obtain ⟨d0, e0, e1, g0⟩ := add_grown hgrow hsb hlt ns no c0 p0 p1 f0))
  all_goals
    have hsw := H1.out.ltsb
    have HAT := Lib.hid hat
    clear hat hlt4 hown ns no nm c0 c1 f0 p0 p1
    go_upto_region 11 with (fail)
    obtain ⟨hmid, hbl, hout⟩ := add_mid H3.out hgrow hown1 _ rfl
    have r1 := (World.cell?_setCell_other w4 ⟨sb, 0, none⟩ ⟨w.heap.size, 0, none⟩ (.slice (some ⟨gg, 0, none⟩) (l.length + 1) cap') (by simp)).trans e0
    have r2 := (World.cell?_setCell_other w4 ⟨sb, 0, none⟩ ⟨w.heap.size, 1, none⟩ (.slice (some ⟨gg, 0, none⟩) (l.length + 1) cap') (by simp)).trans e1
    clear hgrow hown1 d0 e0 e1 g0
    generalize w4.setCell ⟨sb, 0, none⟩ (.slice (some ⟨gg, 0, none⟩) (l.length + 1) cap') = w5 at *
    have r0 : w5.cell? ⟨sb, 1, none⟩ = some (.map (some bm)) := by simp [World.cell?, hmid.blk]
    have HM := Lib.hid hmid
    have HL5 := Lib.hid hbl
    have HO := Lib.hid hout
    clear hmid hbl hout
    go_still_tail 6, (by kernel_rfl)
    change wpList _ _ _ _ _ w5.drew
    go_wp2_with (at_mapUpdate; refine wpList_mapUpdate_own _ rfl _ _ _ 46 rfl 31 3 law31 Try.underlying46 _ bm l.length _ rfl HM.out.map HLT.out _ _ _ rfl rfl HK.out _ [] (plainElem_int Try.underlying3 HWF.out) ?_; intro w6 hown6 hg6)
    go_ret2
    exact ⟨_, _, rfl, add_end H1.out HM.out ((hb3.mono (by have := H1.out.hsb; omega)).trans HL5.out) (fun b hb hF => (HO.out b (by omega) hF).trans (hb3.block b hb)) (by have := HL5.out.size; omega) (HAT.out.imp id (fun e => by omega)) hg6 hown6 (nrm_range HX.out) (nrm_range HY.out)⟩

end Go.Proofs.Ytjenkhdphglidaa
