/- The walks of From and From32 over a row of points. -/
import Derived.Test.YtjenkhdphglidaaK
import Derived.Test.YtjenkhdphglidaaL
import Derived.Test.YtjenkhdphglidaaW
import Derived.Test.YtjenkhdphglidaaT
import Derived.Deep.LoopGhost
namespace Go.Proofs.Ytjenkhdphglidaa
open Go.RowKit Go.Maps

/-- What From is told of its points: where they lie, that they are the row f. -/
structure RowArg (w : World) (A : Option Addr) (n c g : Nat) (f : Nat → Int) : Prop where
  idx : ∀ (i : Nat) (w : World), i < n → (Instr.indexAt 22 (.slice A n c) (.int .i64 i)).run Try.prog w = Result.ok (.pointer (some ⟨g, i * 2, none⟩)) w
  fst : ∀ i : Nat, i < n → w.cell? ⟨g, i * 2, none⟩ = some (.int .i64 (f i))
  snd : ∀ i : Nat, i < n → w.cell? ⟨g, i * 2 + 1, none⟩ = some (.int .i64 0)

theorem RowArg.kept {w w' : World} {A : Option Addr} {n c g : Nat} {f : Nat → Int} (h : RowArg w A n c g f) (hb : Below w.heap.size w w') : RowArg w' A n c g f := by
  refine ⟨h.idx, fun i hi => ?_, fun i hi => ?_⟩
  · rw [hb.cell (p := ⟨g, i * 2, none⟩) (World.block_lt_of_cell? w _ (h.fst i hi))]; exact h.fst i hi
  · rw [hb.cell (p := ⟨g, i * 2 + 1, none⟩) (World.block_lt_of_cell? w _ (h.snd i hi))]; exact h.snd i hi

/-- What From leaves. -/
def Fromed (w : World) (f : Nat → Int) (n : Nat) (e : Ending) (w' : World) : Prop :=
  Below w.heap.size w w' ∧
  ((n ≤ 65536 ∧ ∃ sb bm a cap D, e = .returned (.tuple #[.pointer (some ⟨sb, 0, none⟩), .int .i64 0, .int .i64 0]) ∧ SetInv w.heap.size w' sb bm a cap (rowPts f n) D ∧ Run f n D) ∨
   (65536 < n ∧ e = .returned (.tuple #[.pointer none, .int .i64 65536, .int .i64 22])))

/-- A set behind k rounds of From. -/
def Fill (B : Nat) (w : World) (f : Nat → Int) (sb bm k : Nat) (wr : World) : Prop := ∃ a cap D, SetInv B wr sb bm a cap (rowPts f k) D ∧ Run f k D ∧ Below w.heap.size w wr

set_option maxHeartbeats 1000000 in
theorem from_any {w : World} {A : Option Addr} {n c g : Nat} {f : Nat → Int} (F : Abs f) (h : RowArg w A n c g f) (hn : n < 65541) :
    Calls Try.prog 15 #[.slice A n c] w (Fromed w f n) := by
  have HA := Lib.hid h
  have HN := Lib.hid hn
  clear h hn
  go_enter Try.func15, Try.ntmps15
  go_wp2_with fail
  refine (new_any _).mono ?_
  rintro e w1 ⟨rfl, h1, hb1⟩
  have H1 := Lib.hid h1
  have B1 := Lib.hid hb1
  clear h1 hb1
  go_wp2_with fail
  generalize hsb : w.heap.size + 1 = sb at *
  clear hsb
  go_loopg [13] n (fun gg s13 wr => ∃ k : Nat, k ≤ n ∧ gg + k = n ∧ s13 = .int .i64 k ∧ k ≤ 65536 ∧ Fill w.heap.size w f sb w.heap.size k wr)
  case atStart => exact ⟨0, Nat.zero_le _, rfl, rfl, Nat.zero_le _, none, 0, .map [], H1.out, run_nil f, B1.out⟩
  case round =>
    obtain ⟨k, hk, hg, rfl, hk6, a, cap, D, h, hr, hb⟩ := hrel
    have HK6 := Lib.hid hk6
    have HH := Lib.hid h
    have HR := Lib.hid hr
    have HB := Lib.hid hb
    clear hk6 h hr hb H1 B1
    by_cases hkn : k < n
    · have hkz : (k : Int) < (n : Int) := by omega
      have hi := fun w' => HA.out.idx k w' hkn
      have q0 := (HA.out.kept HB.out).fst k hkn
      have q1 := (HA.out.kept HB.out).snd k hkn
      have hw3 : wrap64 ((k : Int) + 1) = (k : Int) + 1 := by have := HN.out; unfold wrap64; omega
      go_upto_region 5 with (fail)
      obtain ⟨d0, d1, hb5⟩ := box_start wr (.int .i64 (f k)) (.int .i64 0)
      generalize wr.alloc (Obj.cells #[Value.int IntKind.i64 (f k), Value.int IntKind.i64 0] 31) = w5 at *
      have H5 := Lib.hid (HH.out.kept hb5)
      have B5 := Lib.hid (HB.out.trans (hb5.mono HB.out.size))
      clear hb5 q0 q1
      go_wp2_with fail
      clear d0 d1
      by_cases hlt : k < 65536
      · have HL := Lib.hid hlt
        clear hlt
        refine (add_row F H5.out HR.out HL.out).mono ?_
        rintro e w6 ⟨rfl, a', cap', D', h6, hr6, hb6⟩
        have H6 := Lib.hid h6
        have R6 := Lib.hid hr6
        have B6 := Lib.hid (B5.out.trans hb6)
        clear h6 hr6 hb6
        go_wp2_with fail
        go_roundg (n - (k + 1))
        case measure => omega
        case rel => exact ⟨k + 1, by omega, by omega, by go_num, by have := HL.out; omega, a', cap', D', H6.out, R6.out, B6.out⟩
      · have HL := Lib.hid (show k = 65536 by have := HK6.out; omega)
        clear hlt
        refine (add_full F H5.out HR.out (by rw [HL.out]; exact Nat.le_refl _) (Nat.le_refl _) (by rw [HL.out]; decide)).mono ?_
        rintro e w6 ⟨rfl, hb6⟩
        have B6 := Lib.hid (B5.out.trans (hb6.mono B5.out.size))
        clear hb6
        go_wp2_with fail
        go_ret3
        exact ⟨B6.out, .inr ⟨by rw [← HL.out]; exact hkn, by rw [HL.out]; rfl⟩⟩
    · have hkz : ¬ (k : Int) < (n : Int) := by omega
      obtain rfl : k = n := by omega
      go_wp2_with fail
      go_ret3
      exact ⟨HB.out, .inl ⟨HK6.out, _, _, _, _, _, rfl, HH.out, HR.out⟩⟩

set_option maxHeartbeats 1000000 in
theorem from32_any {w : World} {A : Option Addr} {n c g : Nat} (h : RowArg w A n c g narrowF) (hn : n < 65541) :
    Calls Try.prog 16 #[.slice A n c] w (Fromed w wideG n) := by
  have HA := Lib.hid h
  have HN := Lib.hid hn
  have HZ := Lib.hid wide_zero
  clear h hn
  go_enter Try.func16, Try.ntmps16
  go_wp2_with fail
  refine (new_any _).mono ?_
  rintro e w1 ⟨rfl, h1, hb1⟩
  have H1 := Lib.hid h1
  have B1 := Lib.hid hb1
  clear h1 hb1
  go_wp2_with fail
  generalize hsb : w.heap.size + 1 = sb at *
  clear hsb
  go_loopg [14] n (fun gg s14 wr => ∃ k : Nat, k ≤ n ∧ gg + k = n ∧ s14 = .int .i64 k ∧ k ≤ 65536 ∧ Fill w.heap.size w wideG sb w.heap.size k wr)
  case atStart => exact ⟨0, Nat.zero_le _, rfl, rfl, Nat.zero_le _, none, 0, .map [], H1.out, run_nil wideG, B1.out⟩
  case round =>
    obtain ⟨k, hk, hg, rfl, hk6, a, cap, D, h, hr, hb⟩ := hrel
    have HK6 := Lib.hid hk6
    have HH := Lib.hid h
    have HR := Lib.hid hr
    have HB := Lib.hid hb
    clear hk6 h hr hb H1 B1
    by_cases hkn : k < n
    · have hkz : (k : Int) < (n : Int) := by omega
      have hi := fun w' => HA.out.idx k w' hkn
      have q0 := (HA.out.kept HB.out).fst k hkn
      have q1 := (HA.out.kept HB.out).snd k hkn
      have hw3 : wrap64 ((k : Int) + 1) = (k : Int) + 1 := by have := HN.out; unfold wrap64; omega
      have HWD := Lib.hid (fun w => wide_row k w (by have := HN.out; omega))
      have HG : wideG k = ((4607182418800017408 + k * 536870912 : Nat) : Int) := rfl
      rw [← HG] at HWD
      have HF : narrowF k = ((1065353216 + k : Nat) : Int) := rfl
      rw [← HF] at HWD
      clear HG HF
      go_upto_region 5 with (fail)
      obtain ⟨d0, d1, hb5⟩ := box_start wr (.int .i64 (narrowF k)) (.int .i64 0)
      generalize wr.alloc (Obj.cells #[Value.int IntKind.i64 (narrowF k), Value.int IntKind.i64 0] 31) = w5 at *
      have H5 := Lib.hid (HH.out.kept hb5)
      have B5 := Lib.hid (HB.out.trans (hb5.mono HB.out.size))
      clear hb5 q0 q1
      go_wp2_with fail
      refine (HWD.out _).mono ?_
      rintro e w' ⟨rfl, rfl⟩
      go_wp2_with fail
      refine (HZ.out _).mono ?_
      rintro e w' ⟨rfl, rfl⟩
      go_wp2_with fail
      clear d0 d1
      by_cases hlt : k < 65536
      · have HL := Lib.hid hlt
        clear hlt
        refine (add_row abs_wideG H5.out HR.out HL.out).mono ?_
        rintro e w6 ⟨rfl, a', cap', D', h6, hr6, hb6⟩
        have H6 := Lib.hid h6
        have R6 := Lib.hid hr6
        have B6 := Lib.hid (B5.out.trans hb6)
        clear h6 hr6 hb6
        go_wp2_with fail
        go_roundg (n - (k + 1))
        case measure => omega
        case rel => exact ⟨k + 1, by omega, by omega, by go_num, by have := HL.out; omega, a', cap', D', H6.out, R6.out, B6.out⟩
      · have HL := Lib.hid (show k = 65536 by have := HK6.out; omega)
        clear hlt
        refine (add_full abs_wideG H5.out HR.out (by rw [HL.out]; exact Nat.le_refl _) (Nat.le_refl _) (by rw [HL.out]; decide)).mono ?_
        rintro e w6 ⟨rfl, hb6⟩
        have B6 := Lib.hid (B5.out.trans (hb6.mono B5.out.size))
        clear hb6
        go_wp2_with fail
        go_ret3
        exact ⟨B6.out, .inr ⟨by rw [← HL.out]; exact hkn, by rw [HL.out]; rfl⟩⟩
    · have hkz : ¬ (k : Int) < (n : Int) := by omega
      obtain rfl : k = n := by omega
      go_wp2_with fail
      go_ret3
      exact ⟨HB.out, .inl ⟨HK6.out, _, _, _, _, _, rfl, HH.out, HR.out⟩⟩

end Go.Proofs.Ytjenkhdphglidaa
