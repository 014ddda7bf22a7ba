/- The walk of row: two slices of points, one beside the other. -/
import Derived.Test.YtjenkhdphglidaaK
import Derived.Test.YtjenkhdphglidaaC
import Derived.Deep.LoopGhost
import Derived.Deep.AppendLies
namespace Go.Proofs.Ytjenkhdphglidaa
open Go.RowKit Go.Maps

def narrowF (j : Nat) : Int := ((1065353216 + j : Nat) : Int)

/-- The two slices behind k rounds. -/
structure Two (w wr : World) (k : Nat) (v1 v2 : Value) : Prop where
  one : wr.ownsRow w.heap.size 31 2 v1 k (pcells (rowPts wideF k))
  two : wr.ownsRow w.heap.size 31 2 v2 k (pcells (rowPts narrowF k))
  far : v2.ownBlock = none ∨ v2.ownBlock ≠ v1.ownBlock
  bel : Below w.heap.size w wr

theorem two_nil (w : World) : Two w w 0 (.slice none 0 0) (.slice none 0 0) := ⟨World.ownsRow_nil _ _ _ _, World.ownsRow_nil _ _ _ _, .inl rfl, Below.refl _ _⟩

theorem rowPts_cells (f : Nat → Int) (k : Nat) (x : Int) (h : f k = x) : pcells (rowPts f k) ++ [.int .i64 x, .int .i64 0] = pcells (rowPts f (k + 1)) := by
  rw [rowPts_succ, pcells_snoc, h]

theorem two_step {w wr w1 w2 : World} {k g1 g2 cap1 cap2 : Nat} {v1 v2 : Value} {o1 o2 : Obj} {x y : Int} (h : Two w wr k v1 v2) (hx : wideF k = x) (hy : narrowF k = y)
    (hown1 : w1.ownsRow w.heap.size 31 2 (.slice (some ⟨g1, 0, none⟩) (k + 1) cap1) (k + 1) (pcells (rowPts wideF k) ++ [.int .i64 x, .int .i64 0])) (hg1 : (wr.alloc o1).grownBy w1 v1.ownBlock)
    (hat1 : v1.ownBlock = some g1 ∨ g1 = wr.heap.size + 1) (hlt1 : g1 < w1.heap.size)
    (hown2 : w2.ownsRow w.heap.size 31 2 (.slice (some ⟨g2, 0, none⟩) (k + 1) cap2) (k + 1) (pcells (rowPts narrowF k) ++ [.int .i64 y, .int .i64 0])) (hg2 : (w1.alloc o2).grownBy w2 v2.ownBlock)
    (hat2 : v2.ownBlock = some g2 ∨ g2 = w1.heap.size + 1) :
    Two w w2 (k + 1) (.slice (some ⟨g1, 0, none⟩) (k + 1) cap1) (.slice (some ⟨g2, 0, none⟩) (k + 1) cap2) := by
  rw [rowPts_cells _ _ _ hx] at hown1
  rw [rowPts_cells _ _ _ hy] at hown2
  have hs1 := hg1.size
  simp at hs1
  have hb2 : ∀ b, v2.ownBlock = some b → b < wr.heap.size := fun b hb => (h.two.lt b hb).2
  have hne : ∀ b, v2.ownBlock = some b → b ≠ g1 := by
    intro b hb e
    subst e
    rcases hat1 with e | e
    · rcases h.far with h' | h'
      · rw [h'] at hb; cases hb
      · exact h' (hb.trans e.symm)
    · have := hb2 _ hb; omega
  have hl : w.heap.size ≤ wr.heap.size := h.bel.size
  refine ⟨(hown1.alloc o2).kept hg2 (.inr ?_), hown2, .inr ?_, ?_⟩
  · intro e
    exact hne g1 e.symm rfl
  · simp only [Value.ownBlock, ne_eq, Option.some.injEq]
    intro e
    rcases hat2 with h' | h'
    · exact hne _ h' e
    · omega
  · refine ((((h.bel.alloc hl o1).grown hg1 (by simp; omega) (fun b hb => (h.one.lt b hb).1)).alloc (by omega) o2).grown hg2 (by simp; omega) (fun b hb => (h.two.lt b hb).1))

theorem base_two {w wr w1 : World} {o o' : Obj} {row : Option Nat} (h : w.heap.size ≤ wr.heap.size + 1) (hg : (wr.alloc o).grownBy w1 row) : w.heap.size ≤ (w1.alloc o').heap.size := by
  have := hg.size
  simp at this ⊢
  omega

/-- What row leaves. -/
def Rowed (w : World) (n : Nat) (e : Ending) (w' : World) : Prop := ∃ v1 v2, e = .returned (.tuple #[v1, v2]) ∧ Two w w' n v1 v2

set_option maxHeartbeats 1000000 in
theorem row_any (n : Nat) (w : World) (hn : n < 65541) : Calls Try.prog 14 #[.int .i64 n] w (Rowed w n) := by
  obtain ⟨i0, hi0, hz0, hz1, hz2⟩ := info_parts Try.info31
  have HN := Lib.hid hn
  clear hn
  go_enter Try.func14, Try.ntmps14
  go_wp2_with fail
  go_loopg [4, 5, 6] n (fun g s4 s5 s6 wr => ∃ k : Nat, k ≤ n ∧ g + k = n ∧ s6 = .int .i64 k ∧ Two w wr k s4 s5)
  case atStart => exact ⟨0, Nat.zero_le _, rfl, rfl, two_nil w⟩
  case round =>
    obtain ⟨k, hk, hg, rfl, htwo⟩ := hrel
    have HT := Lib.hid htwo
    clear htwo
    by_cases hkn : k < n
    · have hkz : (k : Int) < (n : Int) := by omega
      have H63 := Lib.hid (show k + 1 ≤ maxLen by have := HN.out; unfold maxLen; omega)
      have HBY := Lib.hid (show (k + 1) * 16 ≤ 140737488355328 by have := HN.out; omega)
      have hw1 : wrap64 (4607182418800017408 + (k : Int)) = 4607182418800017408 + (k : Int) := by have := HN.out; unfold wrap64; omega
      have hw2 : wrap64 (1065353216 + (k : Int)) = 1065353216 + (k : Int) := by have := HN.out; unfold wrap64; omega
      have hw3 : wrap64 ((k : Int) + 1) = (k : Int) + 1 := by have := HN.out; unfold wrap64; omega
      have HF := Lib.hid HT.out.far
      have HBL := Lib.hid (Nat.le_succ_of_le HT.out.bel.size)
      have HX := Lib.hid (show wideF k = 4607182418800017408 + (k : Int) by unfold wideF; omega)
      have HY := Lib.hid (show narrowF k = 1065353216 + (k : Int) by unfold narrowF; omega)
      go_wp2_with (first | (at_builtin; refine wpList_append_lies _ rfl (.tmp 12) (.tmp 16) 22 rfl w.heap.size 31 i0 _ 2 16 Try.underlying22 hi0 hz0 hz1 hz2 rfl (by decide) _ k _ rfl (HT.out.one.alloc _) ⟨wr.heap.size, 0, none⟩ 1 1 [.int .i64 (4607182418800017408 + (k : Int)), .int .i64 0] rfl rfl (World.news_of_block (cs := #[.int .i64 (4607182418800017408 + (k : Int)), .int .i64 0]) (t := 31) (fr := (0, 0)) (heap_alloc_new wr _)) (by simp [Value.oneCell']) (by decide) H63.out HBY.out (by simpa using HBL.out) (wr.heap.size + 1) (by simp) ?_; intro g1 cap1 w1 hown1 hgrow1 hat1 hlt1) | (at_builtin; refine wpList_append_lies _ rfl (.tmp 18) (.tmp 22) 22 rfl w.heap.size 31 i0 _ 2 16 Try.underlying22 hi0 hz0 hz1 hz2 rfl (by decide) _ k _ rfl (((HT.out.two.alloc _).kept hgrow1 HF.out).alloc _) ⟨w1.heap.size, 0, none⟩ 1 1 [.int .i64 (1065353216 + (k : Int)), .int .i64 0] rfl rfl (World.news_of_block (cs := #[.int .i64 (1065353216 + (k : Int)), .int .i64 0]) (t := 31) (fr := (0, 0)) (heap_alloc_new w1 _)) (by simp [Value.oneCell']) (by decide) H63.out HBY.out (base_two HBL.out hgrow1) (w1.heap.size + 1) (by simp) ?_; intro g2 cap2 w2 hown2 hgrow2 hat2 hlt2))
      go_roundg (n - (k + 1))
      case measure => omega
      case rel => exact ⟨k + 1, by omega, by omega, by go_num, two_step HT.out HX.out HY.out hown1 hgrow1 hat1 hlt1 hown2 hgrow2 hat2⟩
    · have hkz : ¬ (k : Int) < (n : Int) := by omega
      obtain rfl : k = n := by omega
      go_wp2_with fail
      go_ret2
      exact ⟨_, _, rfl, HT.out⟩

end Go.Proofs.Ytjenkhdphglidaa
