/- The walks of Clone and Points. -/
import Derived.Test.YtjenkhdphglidaaN
namespace Go.Proofs.Ytjenkhdphglidaa
open Go.RowKit Go.Maps

variable {B : Nat} {w w' : World} {sb bm : Nat} {a : Option Addr} {cap : Nat} {l : List (Int × Int)} {D : DataW Unit}

/-- What Clone leaves: a slice of the call's own with the same points. -/
def Cloned (w : World) (l : List (Int × Int)) (e : Ending) (w' : World) : Prop :=
  ∃ a' cap', e = .returned (.slice a' l.length cap') ∧ w'.ownsRow w.heap.size 31 2 (.slice a' l.length cap') l.length (pcells l) ∧ Below w.heap.size w w'

theorem shape_of {base : Nat} {v : Value} {n : Nat} {xs : List Value} (h : w.ownsRow base 31 2 v n xs) : ∃ a' cap', v = .slice a' n cap' := by
  rcases h.2 with ⟨rfl, rfl⟩ | ⟨g, cap, cur, rfl, _⟩
  · exact ⟨_, _, rfl⟩
  · exact ⟨_, _, rfl⟩

set_option maxHeartbeats 400000 in
theorem clone_nil (w : World) :
    Calls Try.prog 23 #[.slice none 0 0] w (Cloned w []) := by
  have hq := fun w : World => Lib.run_eql_slice_nil (P := Try.prog) w 22 31 none 0 0 0 0 Try.underlying22
  go_enter Try.func23, Try.ntmps23
  go_wp2
  go_ret
  exact ⟨_, _, rfl, World.ownsRow_nil _ _ _ _, Below.refl _ _⟩

set_option maxHeartbeats 400000 in
theorem clone_some {g : Nat} (h : w.ownsRow B 31 2 (.slice (some ⟨g, 0, none⟩) l.length cap) l.length (pcells l)) (hl : l.length ≤ 65536) :
    Calls Try.prog 23 #[.slice (some ⟨g, 0, none⟩) l.length cap] w (Cloned w l) := by
  obtain ⟨i0, hi0, hz0, hz1, hz2⟩ := info_parts Try.info31
  have hq := fun w : World => Lib.run_eql_slice_nil (P := Try.prog) w 22 31 (some ⟨g, 0, none⟩) l.length cap 0 0 Try.underlying22
  have hcells := (h.alloc (Obj.cells #[] 31)).cells (g := g) rfl
  have hone : ∀ u ∈ pcells l, u.oneCell' = true := by
    intro u hu
    unfold pcells at hu
    rw [List.mem_flatMap] at hu
    obtain ⟨p, _, hp⟩ := hu
    simp at hp
    rcases hp with rfl | rfl <;> rfl
  have HC := Lib.hid hcells
  have H1 := Lib.hid hone
  have H63 := Lib.hid (show 0 + l.length ≤ maxLen by unfold maxLen; omega)
  have HBY := Lib.hid (show (0 + l.length) * 16 ≤ 140737488355328 by omega)
  have HLN := Lib.hid (pcells_length l)
  have HM := Lib.hid (World.ownsRow_made (e := 31) (size := 2) (base := w.heap.size) w #[] 0 (Nat.le_refl _) (by decide) rfl)
  clear h hcells hone hl
  go_enter Try.func23, Try.ntmps23
  go_wp2_with (at_builtin; refine wpList_append_own _ rfl (.tmp 5) (.tmp 6) 22 rfl w.heap.size 31 i0 _ 2 16 Try.underlying22 hi0 hz0 hz1 hz2 rfl (by decide) _ 0 [] rfl HM.out ⟨g, 0, none⟩ l.length cap (pcells l) rfl HLN.out HC.out H1.out H63.out HBY.out (by simp) ?_; intro v' w1 hown hgrow _)
  go_ret
  have hown' : w1.ownsRow w.heap.size 31 2 v' l.length (pcells l) := by simpa using hown
  have hg' : (w.alloc (Obj.cells #[] 31)).grownBy w1 (some w.heap.size) := hgrow
  clear hown hgrow
  obtain ⟨a', c', rfl⟩ := shape_of hown'
  exact ⟨a', c', rfl, hown', ((Below.refl _ _).alloc (Nat.le_refl _) _).grown hg' (by simp) (fun k hk => by simp at hk; omega)⟩

theorem SetInv.two (h : SetInv B w sb bm a cap l D) : (a = none ∧ l = [] ∧ cap = 0) ∨ ∃ g, a = some ⟨g, 0, none⟩ := by
  rcases h.own.2 with ⟨hv, h0⟩ | ⟨g, cap', cur, hv, _⟩
  · injection hv with h1 h2 h3
    exact .inl ⟨h1, List.eq_nil_of_length_eq_zero h0, h3⟩
  · injection hv with h1
    exact .inr ⟨g, h1⟩

set_option maxHeartbeats 400000 in
theorem points_nil (h : SetInv B w sb bm none 0 [] D) :
    Calls Try.prog 13 #[.pointer (some ⟨sb, 0, none⟩)] w (Cloned w []) := by
  have c0 := h.cell0
  have HC := Lib.hid (clone_nil w)
  clear h
  go_enter Try.func13, Try.ntmps13
  go_wp2_with (go_at_call 23; refine HC.out.mono ?_; rintro e w1 ⟨a', cap', rfl, hown, hb⟩; have HO := Lib.hid hown; clear hown)
  go_ret
  exact ⟨a', cap', rfl, HO.out, hb⟩

set_option maxHeartbeats 400000 in
theorem points_some {g : Nat} (h : SetInv B w sb bm (some ⟨g, 0, none⟩) cap l D) (hl : l.length ≤ 65536) :
    Calls Try.prog 13 #[.pointer (some ⟨sb, 0, none⟩)] w (Cloned w l) := by
  have c0 := h.cell0
  have HC := Lib.hid (clone_some h.own hl)
  clear h hl
  go_enter Try.func13, Try.ntmps13
  go_wp2_with (go_at_call 23; refine HC.out.mono ?_; rintro e w1 ⟨a', cap', rfl, hown, hb⟩; have HO := Lib.hid hown; clear hown)
  go_ret
  exact ⟨a', cap', rfl, HO.out, hb⟩

theorem points_any (h : SetInv B w sb bm a cap l D) (hl : l.length ≤ 65536) :
    Calls Try.prog 13 #[.pointer (some ⟨sb, 0, none⟩)] w (Cloned w l) := by
  rcases h.two with ⟨rfl, rfl, rfl⟩ | ⟨g, rfl⟩
  · exact points_nil h
  · exact points_some h hl

end Go.Proofs.Ytjenkhdphglidaa
