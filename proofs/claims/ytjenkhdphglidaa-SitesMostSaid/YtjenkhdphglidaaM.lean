/- The walks of the methods that only read, of Drop and of New. -/
import Derived.Test.YtjenkhdphglidaaG
import Derived.Test.YtjenkhdphglidaaS
namespace Go.Proofs.Ytjenkhdphglidaa
open Go.RowKit Go.Maps

theorem heap_alloc_new' (w : World) (o : Obj) {n : Nat} (h : w.heap.size = n) : (w.alloc o).heap[n]? = some o := by
  subst h; exact (MapKept.heap_alloc w o).1

set_option maxHeartbeats 400000 in
theorem new_any (w : World) :
    Calls Try.prog 6 #[] w fun e w' => e = .returned (.pointer (some ⟨w.heap.size + 1, 0, none⟩)) ∧ SetInv w.heap.size w' (w.heap.size + 1) w.heap.size none 0 [] (.map []) ∧ Below w.heap.size w w' := by
  have hmm := @run_makeMap Try.prog
  go_enter Try.func6, Try.ntmps6
  go_wp2
  go_ret
  refine ⟨rfl, ⟨by omega, Nat.le_refl _, heap_alloc_new' _ _ (by simp), World.ownsRow_nil _ _ _ _, (World.ownsMap_made _ _ _ _).alloc _, by simp⟩, ?_⟩
  exact ((Below.refl _ _).alloc (Nat.le_refl _) _).alloc (by simp) _

variable {B : Nat} {w : World} {sb bm : Nat} {a : Option Addr} {cap : Nat} {l : List (Int × Int)} {D : DataW Unit}

set_option maxHeartbeats 400000 in
theorem len_any (h : SetInv B w sb bm a cap l D) :
    Calls Try.prog 17 #[.pointer (some ⟨sb, 0, none⟩)] w fun e w' => e = .returned (.int .i64 (Maps.size D)) ∧ w = w' := by
  have c1 := h.cell1
  have hm := h.map
  clear h
  go_enter Try.func17, Try.ntmps17
  go_wp2_with (at_len; refine wpList_len_own _ rfl _ 46 rfl 31 3 Try.underlying46 _ bm l.length D rfl hm ?_)
  go_ret
  exact ⟨rfl, rfl⟩

set_option maxHeartbeats 400000 in
theorem given_any (h : SetInv B w sb bm a cap l D) :
    Calls Try.prog 12 #[.pointer (some ⟨sb, 0, none⟩)] w fun e w' => e = .returned (.int .i64 l.length) ∧ w = w' := by
  have c0 := h.cell0
  clear h
  go_enter Try.func12, Try.ntmps12
  go_wp2
  go_ret
  exact ⟨rfl, rfl⟩

set_option maxHeartbeats 400000 in
theorem alive_neg (h : SetInv B w sb bm a cap l D) (id : Int) (hid : id < 0) :
    Calls Try.prog 19 #[.pointer (some ⟨sb, 0, none⟩), .int .i64 id] w fun e w' => e = .returned (.bool false) ∧ ∃ n, w' = w.drewN n := by
  have c0 := h.cell0
  clear h
  go_enter Try.func19, Try.ntmps19
  go_wp2
  go_ret
  exact ⟨rfl, 0, rfl⟩

set_option maxHeartbeats 400000 in
theorem alive_big (h : SetInv B w sb bm a cap l D) (id : Int) (h0 : 0 ≤ id) (hid : (l.length : Int) ≤ id) :
    Calls Try.prog 19 #[.pointer (some ⟨sb, 0, none⟩), .int .i64 id] w fun e w' => e = .returned (.bool false) ∧ ∃ n, w' = w.drewN n := by
  have c0 := h.cell0
  clear h
  go_enter Try.func19, Try.ntmps19
  go_wp2
  go_ret
  exact ⟨rfl, 0, rfl⟩

set_option maxHeartbeats 400000 in
theorem alive_in (h : SetInv B w sb bm a cap l D) (i : Nat) (hi : i < l.length) :
    Calls Try.prog 19 #[.pointer (some ⟨sb, 0, none⟩), .int .i64 i] w fun e w' => e = .returned (.bool (Maps.has D (kl (l.getD i (0, 0)).1 (l.getD i (0, 0)).2) && mval D (kl (l.getD i (0, 0)).1 (l.getD i (0, 0)).2) == i)) ∧ ∃ n, w' = w.drewN n := by
  obtain ⟨hx, hy⟩ := h.range hi
  obtain ⟨g, rfl, p0, p1⟩ := h.point hi
  have c0 := h.cell0
  have c1 := h.cell1
  have hlook := fun n => (look_run (w := w.drewN n) h.map hx hy).1
  generalize (l.getD i (0, 0)).1 = x at *
  generalize (l.getD i (0, 0)).2 = y at *
  clear h hx hy
  go_enter Try.func19, Try.ntmps19
  go_wp2
  go_quiet (fail)
  go_wp2
  all_goals go_ret
  all_goals (refine ⟨?_, _, rfl⟩; simp [*])

theorem alive_any (h : SetInv B w sb bm a cap l D) (id : Int) :
    Calls Try.prog 19 #[.pointer (some ⟨sb, 0, none⟩), .int .i64 id] w fun e w' => e = .returned (.bool (alv l D id)) ∧ ∃ n, w' = w.drewN n := by
  by_cases h0 : id < 0
  · have e : alv l D id = false := by simp [alv]; omega
    rw [e]; exact alive_neg h id h0
  · by_cases h1 : (l.length : Int) ≤ id
    · have e : alv l D id = false := by simp [alv]; omega
      rw [e]; exact alive_big h id (by omega) h1
    · obtain ⟨i, rfl⟩ := Int.eq_ofNat_of_zero_le (show 0 ≤ id by omega)
      have hi : i < l.length := by omega
      have e : alv l D i = (Maps.has D (kl (l.getD i (0, 0)).1 (l.getD i (0, 0)).2) && mval D (kl (l.getD i (0, 0)).1 (l.getD i (0, 0)).2) == i) := by simp [alv, hi]
      rw [e]; exact alive_in h i hi

theorem alv_in {id : Int} (h : alv l D id = true) : ∃ i : Nat, id = i ∧ i < l.length := by
  simp only [alv, Bool.and_eq_true, decide_eq_true_eq] at h
  obtain ⟨i, rfl⟩ := Int.eq_ofNat_of_zero_le h.1.1
  exact ⟨i, rfl, by omega⟩

theorem SetInv.drewN (h : SetInv B w sb bm a cap l D) (n : Nat) : SetInv B (w.drewN n) sb bm a cap l D := h.kept (below_drewN (Below.refl _ _) n)

theorem one_block {w w1 : World} {a b : Value} {t : TypeId} {n : Nat} (hw : w1 = (w.alloc (Obj.cells #[a, b] t)).drewN n) :
    w1.cell? ⟨w.heap.size, 0, none⟩ = some a ∧ w1.cell? ⟨w.heap.size, 1, none⟩ = some b ∧ w1.frozen? ⟨w.heap.size, 0, none⟩ = false ∧ w1.frozen? ⟨w.heap.size, 1, none⟩ = false ∧ Below w.heap.size w w1 := by
  subst hw
  exact ⟨by simp, by simp, by simp, by simp, bel_box ..⟩

set_option maxHeartbeats 400000 in
theorem at_no (h : SetInv B w sb bm a cap l D) (id : Int) (hid : alv l D id = false) :
    Calls Try.prog 8 #[.pointer (some ⟨sb, 0, none⟩), .int .i64 id] w fun e w' => e = .returned (.tuple #[.agg #[.int .i64 0, .int .i64 0], .int .i64 21]) ∧ Below w.heap.size w w' := by
  have hal := (alive_any (h.kept (bel_box w (Obj.cells #[.int .i64 0, .int .i64 0] 31) 0)) id)
  rw [hid] at hal
  have HA := Lib.hid hal
  clear hal h hid
  go_enter Try.func8, Try.ntmps8
  go_wp2_with (go_at_call 19; refine HA.out.mono ?_; rintro e w1 ⟨rfl, n, hw⟩; obtain ⟨d0, d1, f0, f1, hb'⟩ := one_block hw; clear hw)
  exact bodyPost_ret (v := .tuple #[.agg #[.int .i64 0, .int .i64 0], .int .i64 21]) (by simp [results, Try.results8, go_sem, d0, d1]) rfl ⟨rfl, (hb'.setCell (by simp) _).setCell (by simp) _⟩

set_option maxHeartbeats 400000 in
theorem at_yes (h : SetInv B w sb bm a cap l D) (i : Nat) (hid : alv l D i = true) :
    Calls Try.prog 8 #[.pointer (some ⟨sb, 0, none⟩), .int .i64 i] w fun e w' => e = .returned (.tuple #[.agg #[.int .i64 (l.getD i (0, 0)).1, .int .i64 (l.getD i (0, 0)).2], .int .i64 0]) ∧ Below w.heap.size w w' := by
  obtain ⟨i', e', hi⟩ := alv_in hid
  obtain rfl : i' = i := by omega
  have h1 := (h.kept (bel_box w (Obj.cells #[.int .i64 0, .int .i64 0] 31) 0))
  have hal := (alive_any h1 i')
  rw [hid] at hal
  have HA := Lib.hid hal
  have H1 := Lib.hid h1
  have hp := fun (w2 : World) (h2 : SetInv B w2 sb bm a cap l D) => h2.point hi
  clear hal h hid e' h1
  generalize (l.getD i' (0, 0)).1 = x at *
  generalize (l.getD i' (0, 0)).2 = y at *
  have HP := Lib.hid hp
  clear hp
  go_enter Try.func8, Try.ntmps8
  go_wp2_with (go_at_call 19; refine HA.out.mono ?_; rintro e w1 ⟨rfl, n, hw⟩; obtain ⟨d0, d1, f0, f1, hb'⟩ := one_block hw; have h2 := H1.out.drewN n; rw [← hw] at h2; clear hw; obtain ⟨g, ha, p0, p1⟩ := HP.out _ h2; have c0 := h2.cell0; rw [ha] at c0; clear h2)
  exact bodyPost_ret (v := .tuple #[.agg #[.int .i64 x, .int .i64 y], .int .i64 0]) (by simp [results, Try.results8, go_sem, d0, d1]) rfl ⟨rfl, (hb'.setCell (by simp) _).setCell (by simp) _⟩

set_option maxHeartbeats 400000 in
theorem drop_no (h : SetInv B w sb bm a cap l D) (id : Int) (hid : alv l D id = false) :
    Calls Try.prog 11 #[.pointer (some ⟨sb, 0, none⟩), .int .i64 id] w fun e w' => e = .returned (.int .i64 21) ∧ ∃ n, w' = w.drewN n := by
  have hal := alive_any h id
  rw [hid] at hal
  have HA := Lib.hid hal
  clear hal h hid
  go_enter Try.func11, Try.ntmps11
  go_wp2_with (go_at_call 19; refine HA.out.mono ?_; rintro e w1 ⟨rfl, n, rfl⟩)
  go_ret
  exact ⟨rfl, _, rfl⟩

/-- What Drop leaves: the map's entries alone have turned. -/
def Dropped (w : World) (B sb bm : Nat) (a : Option Addr) (cap : Nat) (l : List (Int × Int)) (D' : DataW Unit) (e : Ending) (w' : World) : Prop :=
  e = .returned (.int .i64 0) ∧ SetInv B w' sb bm a cap l D' ∧ w.grownBy w' (some bm) ∧ w'.heap.size = w.heap.size

set_option maxHeartbeats 400000 in
theorem drop_yes (h : SetInv B w sb bm a cap l D) (i : Nat) (hid : alv l D i = true) :
    Calls Try.prog 11 #[.pointer (some ⟨sb, 0, none⟩), .int .i64 i] w (Dropped w B sb bm a cap l (D.del (kl (l.getD i (0, 0)).1 (l.getD i (0, 0)).2))) := by
  obtain ⟨i', e', hi⟩ := alv_in hid
  obtain rfl : i' = i := by omega
  have hal := alive_any h i'
  rw [hid] at hal
  have HA := Lib.hid hal
  obtain ⟨hx, hy⟩ := h.range hi
  have hk := keyOf_point hx hy
  have hp := fun (w2 : World) (h2 : SetInv B w2 sb bm a cap l D) => h2.point hi
  have H1 := Lib.hid h
  clear hal h hid e' hx hy
  generalize (l.getD i' (0, 0)).1 = x at *
  generalize (l.getD i' (0, 0)).2 = y at *
  have HK := Lib.hid hk
  have HP := Lib.hid hp
  clear hk hp
  go_enter Try.func11, Try.ntmps11
  go_wp2_with (go_at_call 19; refine HA.out.mono ?_; rintro e w1 ⟨rfl, n, hw⟩; have h2 := H1.out.drewN n; rw [← hw] at h2; obtain ⟨g, ha, p0, p1⟩ := HP.out _ h2; have c0 := h2.cell0; rw [ha] at c0; have c1 := h2.cell1; have hm := h2.map; clear h2; have HW := Lib.hid hw; clear hw)
  go_still_tail 11, (by kernel_rfl)
  change wpList _ _ _ _ _ w1.drew
  go_wp2_with (at_delete; refine wpList_delete_own _ rfl _ _ 46 31 rfl 3 law31 Try.underlying46 _ bm l.length D rfl hm _ _ rfl HK.out ?_; intro w3 hown1 hturn1)
  go_ret
  have hw := HW.out
  subst hw
  have hg := hturn1.grown
  have hg' : w.grownBy w3 (some bm) := ⟨hg.os, hg.tape, hg.output, hg.size, hg.block⟩
  refine ⟨rfl, H1.out.mapped hg' hown1, hg', ?_⟩
  obtain ⟨_, _, _, _, _, rfl⟩ := hturn1
  simp [ChangeMaps.setBlock]

end Go.Proofs.Ytjenkhdphglidaa
