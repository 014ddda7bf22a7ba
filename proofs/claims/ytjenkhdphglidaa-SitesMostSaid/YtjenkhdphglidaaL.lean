/- The walk of SitesNumbers. -/
import Derived.Test.YtjenkhdphglidaaP
import Derived.Deep.LoopGhost
import Derived.Deep.DeepCutAuto
namespace Go.Proofs.Ytjenkhdphglidaa
open Go.RowKit Go.Maps

/-- What holds of the set ahead of round k. -/
def NumInv (B : Nat) (w : World) (sb bm most gv : Nat) (wr : World) : Prop :=
  ∃ a cap l D, SetInv B wr sb bm a cap l D ∧ Good l D ∧ l.length = gv ∧ gv ≤ most ∧ Below w.heap.size w wr

theorem box_start (w : World) (u v : Value) : (w.alloc (Obj.cells #[u, v] 31)).cell? ⟨w.heap.size, 0, none⟩ = some u ∧ (w.alloc (Obj.cells #[u, v] 31)).cell? ⟨w.heap.size, 1, none⟩ = some v ∧ Below w.heap.size w (w.alloc (Obj.cells #[u, v] 31)) :=
  ⟨by simp, by simp, (Below.refl _ _).alloc (Nat.le_refl _) _⟩

theorem undrew {w w' : World} (h : Below w.drew.heap.size w.drew w') : Below w.heap.size w w' := ⟨h.os, h.tape, h.output, h.size, h.block⟩

theorem getD_mem {l : List (Int × Int)} {i : Nat} (h : i < l.length) : l.getD i (0, 0) ∈ l := by
  have e : l.getD i (0, 0) = l[i] := by simp [List.getD, h]
  rw [e]
  exact List.getElem_mem h

theorem ne_min {x : Int} (h : nrm x = x) : (x == -9223372036854775808) = false := by
  have := nrm_ne_min x
  rw [h] at this
  simpa using this

/-- An element of a slice that the call owns: where it lies, what it holds. -/
theorem idx_own {w : World} {B : Nat} {a : Option Addr} {cap : Nat} {l : List (Int × Int)} (h : w.ownsRow B 31 2 (.slice a l.length cap) l.length (pcells l)) {j : Nat} (hj : j < l.length) :
    ∃ g, (∀ w' : World, (Instr.indexAt 22 (.slice a l.length cap) (.int .i64 j)).run Try.prog w' = Result.ok (.pointer (some ⟨g, j * 2, none⟩)) w') ∧
      w.cell? ⟨g, j * 2, none⟩ = some (.int .i64 (l.getD j (0, 0)).1) ∧ w.cell? ⟨g, j * 2 + 1, none⟩ = some (.int .i64 (l.getD j (0, 0)).2) := by
  rcases h.2 with ⟨_, h0⟩ | ⟨g, cap', cur, hv, _, _, _, _, _, _⟩
  · omega
  · have ha : a = some ⟨g, 0, none⟩ := by injection hv
    subst ha
    have e : ∀ j, (⟨g, 0, none⟩ : Addr).add j = ⟨g, j, none⟩ := fun j => by
      unfold Addr.add
      split <;> simp_all
    refine ⟨g, ?_, ?_, ?_⟩
    · intro w'
      rw [run_indexAt_slice (h := Try.underlying22), if_pos ⟨by omega, by omega⟩]
      have hs : (sizeOf (Try.prog.elem 22)).run Try.prog w' = Result.ok 2 w' := by kernel_rfl
      rw [hs]
      simp [Result.andThen, e]
    · have := h.cells (g := g) rfl _ _ (pcells_fst l j hj)
      rwa [e, Nat.mul_comm] at this
    · have := h.cells (g := g) rfl _ _ (pcells_snd l j hj)
      rwa [e, Nat.mul_comm] at this

theorem feq_nrm {x y : Int} (h : okP x y = true) : feq (nrm x) x = true ∧ feq (nrm y) y = true := by
  unfold okP at h
  rw [Bool.and_eq_true] at h
  exact ⟨same_nrm h.1, same_nrm h.2⟩

set_option maxRecDepth 100000 in
set_option maxHeartbeats 1000000 in
theorem numbers_any (w : World) (A DA : Option Addr) (n c m c2 b off b2 off2 : Nat) (P : List (Int × Int)) (Q : List Int) (hn : n ≤ 400)
    (hL : ∀ (i : Nat) (w : World), i < n → (Instr.indexAt 22 (.slice A n c) (.int .i64 i)).run Try.prog w = Result.ok (.pointer (some ⟨b, off + i * 2, none⟩)) w)
    (hLc : ∀ i : Nat, i < n → b < w.heap.size ∧ w.cell? ⟨b, off + i * 2, none⟩ = some (.int .i64 (P.getD i (0, 0)).1) ∧ w.cell? ⟨b, off + i * 2 + 1, none⟩ = some (.int .i64 (P.getD i (0, 0)).2) ∧ InR (P.getD i (0, 0)).1 ∧ InR (P.getD i (0, 0)).2)
    (hD : ∀ (i : Nat) (w : World), i < m → (Instr.indexAt 23 (.slice DA m c2) (.int .i64 i)).run Try.prog w = Result.ok (.pointer (some ⟨b2, off2 + i, none⟩)) w)
    (hDc : ∀ i : Nat, i < m → b2 < w.heap.size ∧ w.cell? ⟨b2, off2 + i, none⟩ = some (.int .i64 (Q.getD i 0))) :
    Calls Try.prog 3 #[.slice A n c, .slice DA m c2] w fun e w' => e = .returned (.bool true) ∧ Below w.heap.size w w' := by
  have HL := Lib.hid hL
  have HLC := Lib.hid hLc
  have HD := Lib.hid hD
  have HDC := Lib.hid hDc
  clear hL hLc hD hDc
  have hn400 : ¬ (400 : Int) < (n : Int) := by omega
  have hn9 : (n : Int) ≤ 400 := by omega
  go_enter Try.func3, Try.ntmps3
  go_wp2_with fail
  refine (alive_true _).mono ?_
  rintro e w1 ⟨rfl, hb1⟩
  have B1 := Lib.hid hb1
  clear hb1
  go_wp2_with fail
  refine (new_any _).mono ?_
  rintro e w2 ⟨rfl, h2, hb2⟩
  have H2 := Lib.hid h2
  have B2 := Lib.hid hb2
  clear h2 hb2
  go_wp2_with fail
  have hB := Lib.hid B1.out.size
  have hw2 := Lib.hid (B1.out.trans (B2.out.mono B1.out.size))
  clear B1 B2
  generalize w1.heap.size + 1 = sb at *
  generalize w1.heap.size = B at *
  go_loopg [6, 7] n (fun g s6 s7 wr => ∃ k gv : Nat, k ≤ n ∧ g + k = n ∧ s7 = .int .i64 k ∧ s6 = .int .i64 gv ∧ NumInv B w sb B (2 * k) gv wr)
  case atStart => exact ⟨0, 0, Nat.zero_le _, rfl, rfl, rfl, none, 0, [], .map [], H2.out, good_nil, rfl, Nat.zero_le _, hw2.out⟩
  case round =>
    obtain ⟨k, gv, hk, hg, rfl, rfl, hinv⟩ := hrel
    clear H2 hw2
    by_cases hkn : k < n
    · have hkz : (k : Int) < (n : Int) := by omega
      obtain ⟨a, cap, l, D, h, hgood, rfl, h2k, hbw⟩ := hinv
      obtain ⟨x, y, hxy⟩ : ∃ x y, P.getD k (0, 0) = (x, y) := ⟨_, _, rfl⟩
      obtain ⟨hb, p0, p1, hx, hy⟩ := HLC.out k hkn
      rw [hxy] at p0 p1 hx hy
      clear hxy
      have HB := Lib.hid hb
      have HP := Lib.hid (fun w' (h' : Below w.heap.size w w') => And.intro ((h'.cell (p := ⟨b, off + k * 2, none⟩) hb).trans p0) ((h'.cell (p := ⟨b, off + k * 2 + 1, none⟩) hb).trans p1))
      have q0 := (hbw.cell (p := ⟨b, off + k * 2, none⟩) hb).trans p0
      have q1 := (hbw.cell (p := ⟨b, off + k * 2 + 1, none⟩) hb).trans p1
      clear p0 p1 hb
      have hi := fun w' => HL.out k w' hkn
      have HA := Lib.hid (add_any h hgood (by omega) hx hy)
      have HH := Lib.hid h
      have HG := Lib.hid hgood
      have HX := Lib.hid (And.intro hx hy)
      have HW := Lib.hid hbw
      have H2K := Lib.hid h2k
      clear h hgood hx hy hbw h2k
      go_wp2_with fail
      refine HA.out.mono ?_
      rintro e w3 ⟨id, ec, rfl, hres⟩
      have HR := Lib.hid hres
      clear hres HA q0 q1
      go_upto_block 2 with (fail)
      go_cut [6] (fun s6 wc => ∃ gv' : Nat, s6 = .int .i64 gv' ∧ NumInv B w sb B (2 * k + 1) gv' wc)
      case first =>
        have hws := HW.out.size
        rcases HR.out with ⟨rfl, hp, hb3⟩ | ⟨rfl, hp, hb3, i, rfl, hal, hget⟩ | ⟨rfl, hp, rfl, hb3, a', cap', h3⟩
        · have H3 := Lib.hid (HH.out.kept hb3)
          have W3 := Lib.hid (HW.out.trans (hb3.mono hws))
          obtain ⟨q0, q1⟩ := HP.out _ W3.out
          have HC := Lib.hid (check_not x y w3 hp)
          clear hb3 hp hws
          go_wp2_with fail
          refine HC.out.mono ?_
          rintro e w4 ⟨rfl, hb4⟩
          clear q0 q1
          have B4 := Lib.hid hb4
          clear hb4
          go_wp2_with fail
          go_meet
          exact ⟨l.length, rfl, a, cap, l, D, H3.out.kept B4.out, HG.out, rfl, by have := H2K.out; omega, W3.out.trans (B4.out.mono W3.out.size)⟩
        · have H3 := Lib.hid (HH.out.kept hb3)
          have W3 := Lib.hid (HW.out.trans (hb3.mono hws))
          have hat := at_yes H3.out i hal
          rw [hget] at hat
          have HA := Lib.hid hat
          clear hb3 hws hal hget hat
          go_wp2_with fail
          refine HA.out.mono ?_
          rintro e w4 ⟨rfl, hb4⟩
          have B4 := Lib.hid hb4
          clear hb4
          go_upto_region 17 with (fail)
          obtain ⟨d0, d1, hb5⟩ := box_start w4 (.int .i64 (nrm x)) (.int .i64 (nrm y))
          generalize w4.alloc (Obj.cells #[Value.int IntKind.i64 (nrm x), Value.int IntKind.i64 (nrm y)] 31) = w5 at *
          have B5 := Lib.hid (B4.out.trans (hb5.mono B4.out.size))
          clear hb5
          obtain ⟨q0, q1⟩ := HP.out _ (W3.out.trans (B5.out.mono W3.out.size))
          have HS := Lib.hid (fun w' => same_yes (nrm x) (nrm y) x y w' (okP_nrm hp) hp (feq_nrm hp).1 (feq_nrm hp).2)
          clear hp
          go_region_with (go_at_call 9; refine (HS.out _).mono ?_; rintro e w6 ⟨rfl, hb6⟩)
          all_goals
            clear d0 d1 q0 q1
            have B6 := Lib.hid (undrew hb6)
            clear hb6
            go_wp2_with fail
            go_meet
            exact ⟨l.length, rfl, a, cap, l, D, (H3.out.kept B5.out).kept B6.out, HG.out, rfl, by have := H2K.out; omega, (W3.out.trans (B5.out.mono W3.out.size)).trans (B6.out.mono (by have := W3.out.size; have := B5.out.size; omega))⟩
        · have H3 := Lib.hid h3
          have W3 := Lib.hid (HW.out.trans (hb3.mono hB.out))
          have HGP := Lib.hid (HG.out.put hp HX.out.1 HX.out.2)
          have hll : (l.length : Int) ≤ 800 := by have := H2K.out; omega
          clear hb3 hp h3 hws
          go_wp2_with fail
          go_meet
          exact ⟨(l ++ [(nrm x, nrm y)]).length, by simp, a', cap', _, _, H3.out, HGP.out, rfl, by have := H2K.out; simp; omega, W3.out⟩
      case rest =>
        clear HR HH HG HX HW H2K HP HB hi
        obtain ⟨gv, rfl, a, cap, l, D, h, hgood, rfl, h2k, hbw⟩ := hcut
        have HH := Lib.hid h
        have HG := Lib.hid hgood
        have HW := Lib.hid hbw
        have H2K := Lib.hid h2k
        have hll : (l.length : Int) ≤ 801 := by omega
        clear h hgood hbw h2k
        by_cases hkm : k < m
        · have hkmz : (k : Int) < (m : Int) := by omega
          obtain ⟨q, hq⟩ : ∃ q, Q.getD k 0 = q := ⟨_, rfl⟩
          obtain ⟨hb, p0⟩ := HDC.out k hkm
          rw [hq] at p0
          clear hq
          have q0 := (HW.out.cell (p := ⟨b2, off2 + k, none⟩) hb).trans p0
          have HQ := Lib.hid (fun w' (h' : Below w.heap.size w w') => (h'.cell (p := ⟨b2, off2 + k, none⟩) hb).trans p0)
          clear p0 hb
          have hd := fun w' => HD.out k w' hkm
          by_cases hq0 : 0 ≤ q
          · by_cases hql : q < (l.length : Int)
            · cases hal : alv l D q
              · have HA := Lib.hid (at_no HH.out q hal)
                have HAL := Lib.hid hal
                clear hal
                go_wp2_with fail
                refine HA.out.mono ?_
                rintro e w4 ⟨rfl, hb4⟩
                have B4 := Lib.hid hb4
                clear hb4 q0
                go_upto_region 25 with (fail)
                obtain ⟨_, _, hb5⟩ := box_start w4 (.int .i64 0) (.int .i64 0)
                generalize w4.alloc (Obj.cells #[Value.int IntKind.i64 0, Value.int IntKind.i64 0] 31) = w5 at *
                have B5 := Lib.hid (B4.out.trans (hb5.mono B4.out.size))
                clear hb5
                have W5 := Lib.hid (HW.out.trans (B5.out.mono HW.out.size))
                have H5 := Lib.hid (HH.out.kept B5.out)
                have q0 := HQ.out _ W5.out
                clear HQ
                go_wp2_with fail
                refine (drop_no H5.out q HAL.out).mono ?_
                rintro e w6 ⟨rfl, nd, rfl⟩
                clear q0
                go_wp2_with fail
                refine (given_any (H5.out.drewN nd)).mono ?_
                rintro e w9 ⟨rfl, rfl⟩
                go_wp2_with fail
                go_roundg (n - (k + 1))
                case measure => omega
                case rel => exact ⟨k + 1, l.length, by omega, by omega, by go_num, by first | rfl | go_num | simp, _, _, l, _, H5.out.drewN nd, HG.out, rfl, by have := H2K.out; (first | omega | (simp; omega)), below_drewN W5.out nd⟩
              · obtain ⟨i, rfl, hi⟩ := alv_in hal
                have HA := Lib.hid (at_yes HH.out i hal)
                have HAL := Lib.hid hal
                have hpt := HG.out.pts _ (getD_mem hi)
                have hrg := HH.out.range hi
                have HDR := Lib.hid (fun w' (h' : SetInv B w' sb B a cap l D) => drop_yes h' i HAL.out)
                generalize hu : (l.getD i (0, 0)).1 = u at *
                generalize hv : (l.getD i (0, 0)).2 = v at *
                clear hu hv
                have HPT := Lib.hid hpt
                have HRG := Lib.hid hrg
                clear hal hpt hrg hi
                go_wp2_with fail
                refine HA.out.mono ?_
                rintro e w4 ⟨rfl, hb4⟩
                have B4 := Lib.hid hb4
                clear hb4 q0
                go_upto_region 25 with (fail)
                obtain ⟨d0, d1, hb5⟩ := box_start w4 (.int .i64 u) (.int .i64 v)
                have hlt : w4.heap.size < (w4.alloc (Obj.cells #[Value.int IntKind.i64 u, Value.int IntKind.i64 v] 31)).heap.size := by simp
                generalize w4.alloc (Obj.cells #[Value.int IntKind.i64 u, Value.int IntKind.i64 v] 31) = w5 at *
                have B5 := Lib.hid (B4.out.trans (hb5.mono B4.out.size))
                clear hb5
                have W5 := Lib.hid (HW.out.trans (B5.out.mono HW.out.size))
                have H5 := Lib.hid (HH.out.kept B5.out)
                have q0 := HQ.out _ W5.out
                clear HQ
                go_wp2_with fail
                refine (HDR.out _ H5.out).mono ?_
                rintro e w6 ⟨rfl, h6, hg6, hz6⟩
                have hbm : B < w4.heap.size := by have := HH.out.ltbm; have := B4.out.size; omega
                have e0 := (hg6.cell_far ⟨w4.heap.size, 0, none⟩ hlt (by simp; omega)).trans d0
                have e1 := (hg6.cell_far ⟨w4.heap.size, 1, none⟩ hlt (by simp; omega)).trans d1
                have H6 := Lib.hid h6
                have W6 := Lib.hid (W5.out.grown hg6 W5.out.size (fun j hj => by simp at hj; have := hB.out; omega))
                have HG6 := Lib.hid (HG.out.del HRG.out.1 HRG.out.2)
                have HN := Lib.hid (add_new H6.out u v HPT.out.1 HRG.out.1 HRG.out.2 (by rw [HPT.out.2.1, HPT.out.2.2]; exact has_del_same) (by simp; omega))
                clear d0 d1 q0 hg6 hz6 h6 hbm hlt
                go_wp2_with fail
                refine HN.out.mono ?_
                rintro e w7 ⟨a7, cap7, rfl, h7, hb7, _, _⟩
                have H7 := Lib.hid h7
                have W7 := Lib.hid (W6.out.trans (hb7.mono hB.out))
                have HG7 := Lib.hid (HG6.out.put HPT.out.1 HRG.out.1 HRG.out.2)
                clear e0 e1 h7 hb7 HN
                go_wp2_with fail
                refine (given_any (H7.out)).mono ?_
                rintro e w9 ⟨rfl, rfl⟩
                go_wp2_with fail
                go_roundg (n - (k + 1))
                case measure => omega
                case rel => exact ⟨k + 1, (l ++ [(nrm u, nrm v)]).length, by omega, by omega, by go_num, by first | rfl | go_num | simp, a7, cap7, (l ++ [(nrm u, nrm v)]), _, H7.out, HG7.out, rfl, by have := H2K.out; (first | omega | (simp; omega)), W7.out⟩
            · clear HQ
              go_wp2_with fail
              refine (given_any (HH.out)).mono ?_
              rintro e w9 ⟨rfl, rfl⟩
              go_wp2_with fail
              go_roundg (n - (k + 1))
              case measure => omega
              case rel => exact ⟨k + 1, l.length, by omega, by omega, by go_num, by first | rfl | go_num | simp, _, _, l, _, HH.out, HG.out, rfl, by have := H2K.out; (first | omega | (simp; omega)), HW.out⟩
          · clear HQ
            go_wp2_with fail
            refine (given_any (HH.out)).mono ?_
            rintro e w9 ⟨rfl, rfl⟩
            go_wp2_with fail
            go_roundg (n - (k + 1))
            case measure => omega
            case rel => exact ⟨k + 1, l.length, by omega, by omega, by go_num, by first | rfl | go_num | simp, _, _, l, _, HH.out, HG.out, rfl, by have := H2K.out; (first | omega | (simp; omega)), HW.out⟩
        · have hkmz : ¬ (k : Int) < (m : Int) := by omega
          go_wp2_with fail
          refine (given_any (HH.out)).mono ?_
          rintro e w9 ⟨rfl, rfl⟩
          go_wp2_with fail
          go_roundg (n - (k + 1))
          case measure => omega
          case rel => exact ⟨k + 1, l.length, by omega, by omega, by go_num, by first | rfl | go_num | simp, _, _, l, _, HH.out, HG.out, rfl, by have := H2K.out; (first | omega | (simp; omega)), HW.out⟩
    · have hkz : ¬ (k : Int) < (n : Int) := by omega
      obtain ⟨a, cap, l, D, h, hgood, rfl, h2k, hbw⟩ := hinv
      have HG := Lib.hid hgood
      have HW := Lib.hid hbw
      have HRG := Lib.hid (fun j hj => h.range (i := j) hj)
      have HPS := Lib.hid (points_any h (by omega))
      have hll : (l.length : Int) ≤ 800 := by omega
      clear h hgood hbw h2k
      go_wp2_with fail
      refine HPS.out.mono ?_
      rintro e w3 ⟨a3, cap3, rfl, hown, hb3⟩
      have W3 := Lib.hid (HW.out.trans (hb3.mono HW.out.size))
      have HO := Lib.hid hown
      clear hown hb3 HPS HW
      go_wp2_with fail
      go_loopg [19] l.length (fun g s19 wx => ∃ j : Nat, j ≤ l.length ∧ g + j = l.length ∧ s19 = .int .i64 j ∧ wx.ownsRow wr.heap.size 31 2 (.slice a3 l.length cap3) l.length (pcells l) ∧ Below w.heap.size w wx)
      case atStart => exact ⟨0, Nat.zero_le _, rfl, rfl, HO.out, W3.out⟩
      case round =>
        obtain ⟨j, hj, hgj, rfl, hown, hbw⟩ := hrel
        have HOW := Lib.hid hown
        have HBW := Lib.hid hbw
        clear hown hbw HO W3
        by_cases hjl : j < l.length
        · have hjz : (j : Int) < (l.length : Int) := by omega
          obtain ⟨g3, hidx, p0, p1⟩ := idx_own HOW.out hjl
          obtain ⟨hok, hnx, hny⟩ := HG.out.pts _ (getD_mem hjl)
          have hxm := ne_min hnx
          have hym := ne_min hny
          generalize (l.getD j (0, 0)).1 = x at *
          generalize (l.getD j (0, 0)).2 = y at *
          have HOK := Lib.hid hok
          clear hok hnx hny
          go_wp2_with fail
          refine (check_yes x y _ HOK.out).mono ?_
          rintro e w4 ⟨rfl, hb4⟩
          have B4 := Lib.hid hb4
          clear hb4 p0 p1 hidx
          go_wp2_with fail
          go_roundg (l.length - (j + 1))
          case measure => omega
          case rel => exact ⟨j + 1, by omega, by omega, by go_num, HOW.out.kept (grown_of_below B4.out) (by rw [ob_eq]; cases a3 <;> simp), HBW.out.trans (B4.out.mono HBW.out.size)⟩
        · have hjz : ¬ (j : Int) < (l.length : Int) := by omega
          go_wp2_with fail
          go_ret
          exact ⟨by simp, HBW.out⟩

set_option maxRecDepth 100000 in
set_option maxHeartbeats 1000000 in
theorem numbers_big (w : World) (A DA : Option Addr) (n c m c2 : Nat) (hn : (400 : Int) < (n : Int)) :
    Calls Try.prog 3 #[.slice A n c, .slice DA m c2] w fun e w' => e = .returned (.bool true) ∧ Below w.heap.size w w' := by
  go_enter Try.func3, Try.ntmps3
  go_wp2_with fail
  refine (alive_true _).mono ?_
  rintro e w1 ⟨rfl, hb1⟩
  have B1 := Lib.hid hb1
  clear hb1
  go_wp2_with fail
  refine (alive_true _).mono ?_
  rintro e w2 ⟨rfl, hb2⟩
  have B2 := Lib.hid hb2
  clear hb2
  go_wp2_with fail
  go_ret
  exact ⟨rfl, B1.out.trans (B2.out.mono B1.out.size)⟩

end Go.Proofs.Ytjenkhdphglidaa
