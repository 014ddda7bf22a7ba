/- The walk of SitesMost. -/
import Derived.Test.YtjenkhdphglidaaU
namespace Go.Proofs.Ytjenkhdphglidaa
open Go.RowKit Go.Maps

/-- A part from the begin of a slice that the call owns. -/
theorem rowArg_of {w : World} {B g n c m : Nat} {f : Nat → Int} (h : w.ownsRow B 31 2 (.slice (some ⟨g, 0, none⟩) n c) n (pcells (rowPts f n))) (hm : m ≤ n) : RowArg w (some ⟨g, 0, none⟩) m c g f := by
  have e : ∀ j, (⟨g, 0, none⟩ : Addr).add j = ⟨g, j, none⟩ := fun j => by
    unfold Addr.add
    split <;> simp_all
  refine ⟨?_, ?_, ?_⟩
  · intro i w' hi
    rw [run_indexAt_slice (h := Try.underlying22), if_pos ⟨by omega, by omega⟩]
    have hs : (sizeOf (Try.prog.elem 22)).run Try.prog w' = Result.ok 2 w' := by kernel_rfl
    rw [hs]
    simp [Result.andThen, e]
  · intro i hi
    have := h.cells (g := g) rfl _ _ (pcells_fst (rowPts f n) i (by rw [rowPts_length]; omega))
    rw [rowPts_getD f (show i < n by omega), e, Nat.mul_comm] at this
    exact this
  · intro i hi
    have := h.cells (g := g) rfl _ _ (pcells_snd (rowPts f n) i (by rw [rowPts_length]; omega))
    rw [rowPts_getD f (show i < n by omega), e, Nat.mul_comm] at this
    exact this

/-- What row leaves, for the callers. -/
def Rowed2 (w : World) (n : Nat) (e : Ending) (w' : World) : Prop :=
  ∃ g1 c1 g2 c2, e = .returned (.tuple #[.slice (some ⟨g1, 0, none⟩) n c1, .slice (some ⟨g2, 0, none⟩) n c2]) ∧ n ≤ c1 ∧ n ≤ c2 ∧
    (∀ m, m ≤ n → RowArg w' (some ⟨g1, 0, none⟩) m c1 g1 wideF) ∧ (∀ m, m ≤ n → RowArg w' (some ⟨g2, 0, none⟩) m c2 g2 narrowF) ∧ Below w.heap.size w w'

theorem cap_of {w : World} {B n : Nat} {v : Value} {xs : List Value} (h : w.ownsRow B 31 2 v n xs) (hn : 0 < n) : ∃ g c, v = .slice (some ⟨g, 0, none⟩) n c ∧ n ≤ c := by
  rcases h.2 with ⟨_, h0⟩ | ⟨g, cap, cur, hv, _, _, hc, _⟩
  · omega
  · exact ⟨g, cap, hv, hc⟩

theorem row_some (n : Nat) (w : World) (h0 : 0 < n) (hn : n < 65541) : Calls Try.prog 14 #[.int .i64 n] w (Rowed2 w n) := by
  refine (row_any n w hn).mono ?_
  rintro e w' ⟨v1, v2, rfl, ht⟩
  obtain ⟨g1, c1, rfl, k1⟩ := cap_of ht.one h0
  obtain ⟨g2, c2, rfl, k2⟩ := cap_of ht.two h0
  exact ⟨g1, c1, g2, c2, rfl, k1, k2, fun m hm => rowArg_of ht.one hm, fun m hm => rowArg_of ht.two hm, ht.bel⟩

set_option maxRecDepth 100000 in
set_option maxHeartbeats 1000000 in
theorem most_neg (n : Int) (w : World) (hn : n < 0) : Calls Try.prog 4 #[.int .i64 n] w fun e w' => e = .returned (.bool true) ∧ Below w.heap.size w w' := by
  go_enter Try.func4, Try.ntmps4
  go_wp2_with fail
  refine (alive_true _).mono ?_
  rintro e w1 ⟨rfl, hb1⟩
  have B1 := Lib.hid hb1
  clear hb1
  go_wp2_with fail
  refine (alive_true _).mono ?_
  rintro e w2 ⟨rfl, hb2⟩
  have B2 := Lib.hid hb2
  clear hb2
  go_wp2_with fail
  go_ret
  exact ⟨rfl, B1.out.trans (B2.out.mono B1.out.size)⟩

set_option maxRecDepth 100000 in
set_option maxHeartbeats 1000000 in
theorem most_big (n : Int) (w : World) (hn : 65540 < n) : Calls Try.prog 4 #[.int .i64 n] w fun e w' => e = .returned (.bool true) ∧ Below w.heap.size w w' := by
  have hd : decide (n < 0) = false := by simp; omega
  have hd2 : decide (65540 < n) = true := by simpa using hn
  clear hn
  go_enter Try.func4, Try.ntmps4
  go_wp2_with fail
  refine (alive_true _).mono ?_
  rintro e w1 ⟨rfl, hb1⟩
  have B1 := Lib.hid hb1
  clear hb1
  go_wp2_with fail
  refine (alive_true _).mono ?_
  rintro e w2 ⟨rfl, hb2⟩
  have B2 := Lib.hid hb2
  clear hb2
  go_wp2_with fail
  go_ret
  exact ⟨rfl, B1.out.trans (B2.out.mono B1.out.size)⟩

theorem from_N {w : World} {A : Option Addr} {c g N : Nat} {f : Nat → Int} (F : Abs f) (h : RowArg w A 65536 c g f) (hN : N = 65536) :
    Calls Try.prog 15 #[.slice A 65536 c] w (Fromed w f N) := by
  subst hN; exact from_any F h (by decide)

theorem from32_N {w : World} {A : Option Addr} {c g N : Nat} (h : RowArg w A 65536 c g narrowF) (hN : N = 65536) :
    Calls Try.prog 16 #[.slice A 65536 c] w (Fromed w wideG N) := by
  subst hN; exact from32_any h (by decide)

section
variable {B : Nat} {w : World} {sb bm : Nat} {a : Option Addr} {cap N : Nat} {D : DataW Unit} {l : List (Int × Int)}

theorem len_N {f : Nat → Int} (h : SetInv B w sb bm a cap l D) (r : Run f N D) (hN : N = 65536) :
    Calls Try.prog 17 #[.pointer (some ⟨sb, 0, none⟩)] w fun e w' => e = .returned (.int .i64 65536) ∧ w = w' := by
  have := len_any h
  rw [r.size, hN] at this
  exact this

theorem f7 : wideF 7 = 4607182418800017415 := rfl

theorem most_same (h : SetInv B w sb bm a cap (rowPts wideF N) D) (r : Run wideF N D) (hN : N = 65536) :
    Calls Try.prog 7 #[.pointer (some ⟨sb, 0, none⟩), .agg #[.int .i64 4607182418800017415, .int .i64 0]] w fun e w' => e = .returned (.tuple #[.int .i64 7, .int .i64 20]) ∧ Below w.heap.size w w' := by
  obtain ⟨hp, hn, hr⟩ := abs_wideF.facts (j := 7) (by decide)
  obtain ⟨h1, h2⟩ := r.hit 7 (by omega)
  have := add_same h (wideF 7) 0 hp hr in0 (by rw [hn, nrm0]; exact h1)
  rw [hn, nrm0, h2, f7] at this
  exact this

theorem most_alv (r : Run wideF N D) (hN : N = 65536) : alv (rowPts wideF N) D 7 = true := by
  obtain ⟨h1, h2⟩ := r.hit 7 (by omega)
  have hg := rowPts_getD wideF (i := N) (j := 7) (by omega)
  unfold alv
  rw [rowPts_length, show (7 : Int).toNat = 7 from rfl, hg, h1, h2]
  simp
  omega

theorem most_drop (h : SetInv B w sb bm a cap (rowPts wideF N) D) (r : Run wideF N D) (hN : N = 65536) :
    Calls Try.prog 11 #[.pointer (some ⟨sb, 0, none⟩), .int .i64 7] w (Dropped w B sb bm a cap (rowPts wideF N) (D.del (kl (wideF 7) 0))) := by
  have := drop_yes h 7 (most_alv r hN)
  rw [rowPts_getD wideF (i := N) (j := 7) (by omega)] at this
  exact this

theorem most_again (h : SetInv B w sb bm a cap (rowPts wideF N) (D.del (kl (wideF 7) 0))) (hN : N = 65536) :
    Calls Try.prog 7 #[.pointer (some ⟨sb, 0, none⟩), .agg #[.int .i64 4607182418800017415, .int .i64 0]] w fun e w' => e = .returned (.tuple #[.int .i64 0, .int .i64 22]) ∧ Below w.heap.size w w' := by
  obtain ⟨hp, hn, hr⟩ := abs_wideF.facts (j := 7) (by decide)
  have := add_many h (wideF 7) 0 hp hr in0 (by rw [hn, nrm0]; exact has_del_same) (by rw [rowPts_length]; omega)
  rw [f7] at this
  exact this

theorem most_len (h : SetInv B w sb bm a cap l (D.del (kl (wideF 7) 0))) (r : Run wideF N D) (hN : N = 65536) :
    Calls Try.prog 17 #[.pointer (some ⟨sb, 0, none⟩)] w fun e w' => e = .returned (.int .i64 65535) ∧ w = w' := by
  have h1 := size_del (k := kl (wideF 7) 0) r.tidy
  rw [(r.hit 7 (by omega)).1, r.size] at h1
  have h2 : Maps.size (D.del (kl (wideF 7) 0)) = 65535 := by simp at h1; omega
  have := len_any h
  rw [h2] at this
  exact this

theorem most_given (h : SetInv B w sb bm a cap (rowPts wideF N) D) (hN : N = 65536) :
    Calls Try.prog 12 #[.pointer (some ⟨sb, 0, none⟩)] w fun e w' => e = .returned (.int .i64 65536) ∧ w = w' := by
  have := given_any h
  rw [rowPts_length, hN] at this
  exact this
end

/-- The set behind k rounds: at most N points. -/
def Full (B : Nat) (w : World) (sb bm N k : Nat) (wr : World) : Prop := ∃ a cap D, SetInv B wr sb bm a cap (rowPts wideF (min k N)) D ∧ Run wideF (min k N) D ∧ Below w.heap.size w wr

set_option maxRecDepth 100000 in
set_option maxHeartbeats 2000000 in
theorem most_in (n : Nat) (w : World) (hn : n < 65541) : Calls Try.prog 4 #[.int .i64 n] w fun e w' => e = .returned (.bool true) ∧ Below w.heap.size w w' := by
  have hd : decide ((n : Int) < 0) = false := by simp
  have hd2 : decide ((65540 : Int) < (n : Int)) = false := by simp; omega
  obtain ⟨N, hN⟩ : ∃ N : Nat, N = 65536 := ⟨_, rfl⟩
  have HN := Lib.hid hN
  have HL := Lib.hid hn
  clear hN hn
  go_enter Try.func4, Try.ntmps4
  go_wp2_with fail
  refine (alive_true _).mono ?_
  rintro e w1 ⟨rfl, hb1⟩
  have B1 := Lib.hid hb1
  clear hb1
  go_wp2_with fail
  refine (new_any _).mono ?_
  rintro e w2 ⟨rfl, h2, hb2⟩
  have H2 := Lib.hid h2
  have hB := Lib.hid B1.out.size
  have W2 := Lib.hid (B1.out.trans (hb2.mono B1.out.size))
  clear h2 hb2 B1
  go_wp2_with fail
  generalize w1.heap.size + 1 = sb at *
  generalize w1.heap.size = B at *
  go_loopg [4] n (fun g s4 wr => ∃ k : Nat, k ≤ n ∧ g + k = n ∧ s4 = .int .i64 k ∧ Full B w sb B N k wr)
  case atStart => exact ⟨0, Nat.zero_le _, rfl, rfl, none, 0, .map [], by rw [Nat.zero_min]; exact H2.out, by rw [Nat.zero_min]; exact run_nil _, W2.out⟩
  case round =>
    obtain ⟨k, hk, hg, rfl, a, cap, D, h, hr, hb⟩ := hrel
    have HH := Lib.hid h
    have HR := Lib.hid hr
    have HB := Lib.hid hb
    clear h hr hb H2 W2
    by_cases hkn : k < n
    · have hkz : (k : Int) < (n : Int) := by omega
      have hw1 : wrap64 (4607182418800017408 + (k : Int)) = 4607182418800017408 + (k : Int) := by have := HL.out; unfold wrap64; omega
      have hw3 : wrap64 ((k : Int) + 1) = (k : Int) + 1 := by have := HL.out; unfold wrap64; omega
      have HX := Lib.hid (show wideF k = 4607182418800017408 + (k : Int) by unfold wideF; omega)
      by_cases hlt : k < 65536
      · have hm : min k N = k := by have := HN.out; omega
        have h' := HH.out
        have r' := HR.out
        rw [hm] at h' r'
        have hadd := add_row abs_wideF h' r' hlt
        rw [HX.out] at hadd
        have HA := Lib.hid hadd
        have hd3 : decide ((k : Int) < 65536) = true := by simp; omega
        have hd4 : decide ((65536 : Int) ≤ (k : Int)) = false := by simp; omega
        have HM := Lib.hid (show min (k + 1) N = k + 1 by have := HN.out; omega)
        clear hm h' r' hadd hlt
        go_wp2_with fail
        refine HA.out.mono ?_
        rintro e w6 ⟨rfl, a', cap', D', h6, hr6, hb6⟩
        have H6 := Lib.hid h6
        have R6 := Lib.hid hr6
        have B6 := Lib.hid (HB.out.trans (hb6.mono hB.out))
        clear h6 hr6 hb6
        go_wp2_with fail
        go_roundg (n - (k + 1))
        case measure => omega
        case rel => exact ⟨k + 1, by omega, by omega, by go_num, a', cap', D', by rw [HM.out]; exact H6.out, by rw [HM.out]; exact R6.out, B6.out⟩
      · have hm : min k N = N := by have := HN.out; omega
        have h' := HH.out
        have r' := HR.out
        rw [hm] at h' r'
        have hadd := add_full abs_wideF (j := k) h' r' (by have := HN.out; omega) (by have := HN.out; omega) (by have := HL.out; omega)
        rw [HX.out] at hadd
        have HA := Lib.hid hadd
        have hd3 : decide ((k : Int) < 65536) = false := by simp; omega
        have hd4 : decide ((65536 : Int) ≤ (k : Int)) = true := by simp; omega
        have HM := Lib.hid (show min (k + 1) N = N by have := HN.out; omega)
        have H' := Lib.hid h'
        have R' := Lib.hid r'
        clear hm h' r' hadd hlt
        go_wp2_with fail
        refine HA.out.mono ?_
        rintro e w6 ⟨rfl, hb6⟩
        have H6 := Lib.hid (H'.out.kept hb6)
        have B6 := Lib.hid (HB.out.trans (hb6.mono HB.out.size))
        clear hb6
        go_wp2_with fail
        go_roundg (n - (k + 1))
        case measure => omega
        case rel => exact ⟨k + 1, by omega, by omega, by go_num, a, cap, D, by rw [HM.out]; exact H6.out, by rw [HM.out]; exact R'.out, B6.out⟩
    · have hkz : ¬ (k : Int) < (n : Int) := by omega
      obtain rfl : k = n := by omega
      clear hk hkn hg
      by_cases hbig : k ≤ 65536
      · have hm : min k N = k := by have := HN.out; omega
        have h' := HH.out
        have r' := HR.out
        rw [hm] at h' r'
        have hlen := len_any h'
        rw [r'.size] at hlen
        have hgiv := given_any h'
        rw [rowPts_length] at hgiv
        have HLEN := Lib.hid hlen
        have HGIV := Lib.hid hgiv
        have hd5 : decide ((65536 : Int) < (k : Int)) = false := by simp; omega
        clear hm h' r' hlen hgiv hbig
        go_wp2_with fail
        refine HLEN.out.mono ?_
        rintro e w' ⟨rfl, rfl⟩
        go_wp2_with fail
        refine HGIV.out.mono ?_
        rintro e w' ⟨rfl, rfl⟩
        go_wp2_with fail
        go_ret
        exact ⟨by simp, HB.out⟩
      · have hm : min k N = N := by have := HN.out; omega
        have h' := HH.out
        have r' := HR.out
        rw [hm] at h' r'
        have H' := Lib.hid h'
        have R' := Lib.hid r'
        have hd5 : decide ((65536 : Int) < (k : Int)) = true := by simp; omega
        have HBIG := Lib.hid hbig
        have HROW := Lib.hid (fun w => row_some k w (by omega) HL.out)
        clear hm h' r' hbig
        go_wp2_with fail
        refine (HROW.out _).mono ?_
        rintro e w3 ⟨g1, c1, g2, c2, rfl, k1, k2, ra1, ra2, hb3⟩
        have RA1 := Lib.hid ra1
        have RA2 := Lib.hid ra2
        have K1 := Lib.hid k1
        have K2 := Lib.hid k2
        have B3 := Lib.hid hb3
        clear ra1 ra2 k1 k2 hb3 HROW
        go_wp2_with fail
        refine (from_any abs_wideF (RA1.out k (Nat.le_refl _)) HL.out).mono ?_
        rintro e w4 ⟨hb4, hf4⟩
        rcases hf4 with ⟨hle, _⟩ | ⟨hbg, rfl⟩
        · exact absurd hle HBIG.out
        clear hbg
        have B4 := Lib.hid hb4
        have C4 := Lib.hid (B3.out.trans (hb4.mono B3.out.size))
        clear hb4
        go_wp2_with fail
        refine (from32_any ((RA2.out k (Nat.le_refl _)).kept B4.out) HL.out).mono ?_
        rintro e w5 ⟨hb5, hf5⟩
        rcases hf5 with ⟨hle, _⟩ | ⟨hbg, rfl⟩
        · exact absurd hle HBIG.out
        clear hbg
        have B5' := Lib.hid hb5
        have C5 := Lib.hid (C4.out.trans (hb5.mono C4.out.size))
        clear hb5
        have hc1 : (65536 : Int) ≤ (c1 : Int) := by have := K1.out; have := HBIG.out; omega
        have hc2 : (65536 : Int) ≤ (c2 : Int) := by have := K2.out; have := HBIG.out; omega
        go_wp2_with fail
        have hfw := from_N abs_wideF (((RA1.out 65536 (by have := HBIG.out; omega)).kept B4.out).kept B5'.out) HN.out
        refine hfw.mono ?_
        clear hfw
        rintro e w6 ⟨hb6, hf6⟩
        rcases hf6 with ⟨_, sc, bc, ac, capc, Dc, rfl, hc6, rc6⟩ | ⟨hbg, _⟩
        rotate_left
        · exact absurd hbg (by rw [HN.out]; decide)
        have HC6 := Lib.hid hc6
        have RC6 := Lib.hid rc6
        have B6 := Lib.hid hb6
        have C6 := Lib.hid (C5.out.trans (hb6.mono C5.out.size))
        clear hc6 rc6 hb6
        go_wp2_with fail
        refine (from32_N ((((RA2.out 65536 (by have := HBIG.out; omega)).kept B4.out).kept B5'.out).kept B6.out) HN.out).mono ?_
        rintro e w7 ⟨hb7, hf7⟩
        rcases hf7 with ⟨_, sd, bd, ad, capd, Dd, rfl, hd7, rd7⟩ | ⟨hbg, _⟩
        rotate_left
        · exact absurd hbg (by rw [HN.out]; decide)
        have C7 := Lib.hid (C6.out.trans (hb7.mono C6.out.size))
        have HC7 := Lib.hid (HC6.out.kept hb7)
        have HLC := Lib.hid (len_N HC7.out RC6.out HN.out)
        have HLD := Lib.hid (len_N hd7 rd7 HN.out)
        clear hd7 rd7 hb7
        go_wp2_with fail
        refine HLC.out.mono ?_
        rintro e w' ⟨rfl, rfl⟩
        go_wp2_with fail
        refine HLD.out.mono ?_
        rintro e w' ⟨rfl, rfl⟩
        have H7 := Lib.hid (H'.out.kept C7.out)
        have HS := Lib.hid (most_same H7.out R'.out HN.out)
        clear HLC HLD HC7 RC6 HC6
        go_wp2_with fail
        refine HS.out.mono ?_
        rintro e w8 ⟨rfl, hb8⟩
        have C8 := Lib.hid (C7.out.trans (hb8.mono C7.out.size))
        have H8 := Lib.hid (H7.out.kept hb8)
        have HDR := Lib.hid (most_drop H8.out R'.out HN.out)
        clear hb8
        go_wp2_with fail
        refine HDR.out.mono ?_
        rintro e w9 ⟨rfl, h9, hg9, _⟩
        have H9 := Lib.hid h9
        have W9 := Lib.hid ((HB.out.trans (C8.out.mono HB.out.size)).grown hg9 (by have := HB.out.size; have := C8.out.size; omega) (fun j hj => by simp at hj; have := hB.out; omega))
        have HAG := Lib.hid (most_again H9.out HN.out)
        clear h9 hg9
        go_wp2_with fail
        refine HAG.out.mono ?_
        rintro e w10 ⟨rfl, hb10⟩
        have H10 := Lib.hid (H9.out.kept hb10)
        have W10 := Lib.hid (W9.out.trans (hb10.mono W9.out.size))
        have HLEN := Lib.hid (most_len H10.out R'.out HN.out)
        have HGIV := Lib.hid (most_given H10.out HN.out)
        clear hb10
        go_wp2_with fail
        refine HLEN.out.mono ?_
        rintro e w' ⟨rfl, rfl⟩
        go_wp2_with fail
        refine HGIV.out.mono ?_
        rintro e w' ⟨rfl, rfl⟩
        go_wp2_with fail
        go_ret
        exact ⟨rfl, W10.out⟩

end Go.Proofs.Ytjenkhdphglidaa
