/- The key pass of a peak: what the reference's function returns. -/
import Derived.Test.YtgekjhmjjjkibaaSPas
import Derived.Test.YtgekjhmjjjkibaaPk
import Derived.Test.YtgekjhmjjjkibaaRng
namespace Go.Proofs.Ytgekjhmjjjkibaa
set_option linter.unusedVariables false
set_option linter.unusedSimpArgs false
open Go.RowKit

noncomputable def keyV (n : Nat) (L : Nat → Nat) (g : Nat → Nat → Int) (i : Nat) : Int := if kTo (flat (L 0) g) (passV n (L 0) (flat (L 0) g) i) i (n * L 0) < 0 then minTo (flat (L 0) g) (n * L 0) else kTo (flat (L 0) g) (passV n (L 0) (flat (L 0) g) i) i (n * L 0)
noncomputable def peakKeyV (n : Nat) (L : Nat → Nat) (g : Nat → Nat → Int) (i : Int) : Int := if peakIsV n L g i = true then keyV n L g i.toNat else -1
theorem kTo_yes {h f : Nat → Int} {i k : Nat} (e : hiB h k i = true) : kTo h f i (k + 1) = max (kTo h f i k) (f k) := if_pos e
theorem kTo_no {h f : Nat → Int} {i k : Nat} (e : hiB h k i = false) : kTo h f i (k + 1) = kTo h f i k := if_neg (by rw [e]; exact fun h => by cases h)

set_option maxHeartbeats 1500000 in
theorem specPeakKey_any (A : Option Addr) (n cp : Nat) (L : Nat → Nat) (g : Nat → Nat → Int) (i : Int) (w : World) (hg : GridF w A n L g) (hn : n ≤ 1048576) (hL : ∀ r, r < n → L r ≤ 1048576) (h1 : -9223372036854775808 ≤ i) (h2 : i ≤ 9223372036854775807) :
    Calls Try.prog 48 #[.slice A n cp, .int .i64 i] w (RetV (.int .i64 (peakKeyV n L g i)) w) := by
  have HG := Lib.hid hg
  have HL := Lib.hid hL
  clear hg hL
  cases hp : peakIsV n L g i
  · have HE : Hid (peakKeyV n L g i = -1) := by show _ = _; unfold peakKeyV; rw [hp]; rfl
    go_enter Try.func48, Try.ntmps48
    go_wp2_with fail
    refine (specPeakIs_any _ _ _ _ _ _ _ HG.out hn HL.out h1 h2).mono ?_
    rintro e w1 ⟨rfl, hb1⟩
    rw [hp]
    clear hp
    go_wp2_with fail
    go_ret
    exact ⟨ret_int HE.out.symm, hb1⟩
  · have hh : HasIdx n L g i := by
      by_cases hh : HasIdx n L g i
      · exact hh
      · rw [show peakIsV n L g i = false from if_neg hh] at hp; cases hp
    have HE : Hid (peakKeyV n L g i = keyV n L g i.toNat) := by show _ = _; unfold peakKeyV; rw [hp]; rfl
    obtain ⟨hv, hi1, hi2⟩ := hh
    obtain ⟨i, rfl⟩ := Int.eq_ofNat_of_zero_le hi1
    rw [Int.toNat_natCast] at HE
    have HV := Lib.hid hv
    have HRg := Lib.hid (rngV_yes hv)
    have hn2 := hv.2.1
    have hl2 := hv.2.2.2.1
    obtain ⟨N, hN⟩ : ∃ N, N = n * L 0 := ⟨_, rfl⟩
    have hN1 : N ≤ 49 := by rw [hN]; exact Nat.le_trans (Nat.mul_le_mul hn2 hl2) (by decide)
    have HN := Lib.hid hN
    have HI : Hid (i < n * L 0) := by show i < n * L 0; omega
    obtain ⟨h, hh⟩ : ∃ h, h = flat (L 0) g := ⟨_, rfl⟩
    have HH := Lib.hid hh
    obtain ⟨f, hf⟩ : ∃ f, f = passV n (L 0) h i := ⟨_, rfl⟩
    have HF := Lib.hid hf
    have HE2 : Hid (peakKeyV n L g i = if kTo h f i N < 0 then minTo h N else kTo h f i N) := by
      show _ = _
      rw [HE.out, hf, hh, hN]; rfl
    clear hv hN hh hf HE hi1 hi2
    go_enter Try.func48, Try.ntmps48
    go_wp2_with fail
    refine (specPeakIs_any _ _ _ _ _ _ _ HG.out hn HL.out h1 h2).mono ?_
    rintro e w1 ⟨rfl, hb1⟩
    rw [hp]
    clear hp
    have HG1 := Lib.hid (HG.out.below hb1)
    go_wp2_with fail
    refine (l4Passes_any _ _ _ _ _ _ _ HG1.out HV.out HI.out).mono ?_
    rintro e w2 ⟨v, rfl, hown, _, hb2⟩
    rw [← HN.out, ← HH.out, ← HF.out] at hown
    obtain ⟨Av, cv, rfl, _⟩ := hown.s.slice
    have HO := Lib.hid hown
    have HG2 := Lib.hid (HG1.out.below hb2)
    have hbb := hb1.trans (hb2.mono hb1.size)
    clear hown
    go_wp2_with fail
    go_loopw [6, 7] (fun kv iv wi => ∃ k : Nat, k ≤ N ∧ iv = .int .i64 k ∧ kv = .int .i64 (kTo h f i k) ∧ Below w2.heap.size w2 wi) (fun _ iv _ => N - (intOf iv).toNat)
    case atStart => exact ⟨0, Nat.zero_le _, rfl, rfl, Below.refl _ _⟩
    case round =>
      obtain ⟨k, hk, rfl, rfl, hbel⟩ := hrel
      have HG3 := Lib.hid (HG2.out.below hbel)
      by_cases hlt : k < N
      · have HK : Hid (k < n * L 0) := by show k < n * L 0; rw [← HN.out]; exact hlt
        go_wp2_with fail
        refine (l4Higher_any _ _ _ _ _ _ _ h _ HG3.out HV.out HH HK.out HI.out).mono ?_
        rintro e w4 ⟨rfl, hb4⟩
        have hbel4 := hbel.trans (hb4.mono hbel.size)
        obtain ⟨bo, rfl, _, _, hcells⟩ := (HO.out.below hbel4).cells (by omega)
        have hck := (hcells k hlt).1
        clear hcells
        cases hb : hiB h k i
        · have HT := Lib.hid (kTo_no (f := f) hb)
          clear hb
          go_wp2_with fail
          go_roundw
          case rel => exact ⟨k + 1, by omega, by go_num, val_int HT.out.symm, hbel4⟩
          case measure => simp [intOf]; omega
        · have HT := Lib.hid (kTo_yes (f := f) hb)
          clear hb
          go_wp2_with fail
          go_roundw
          case rel => exact ⟨k + 1, by omega, by go_num, val_int (by rw [HT.out]; split <;> omega), hbel4⟩
          case measure => simp [intOf]; omega
      · have HKN : Hid (k = N) := by show k = N; omega
        have hbz := hbb.trans (hbel.mono hbb.size)
        by_cases q : kTo h f i k < 0
        · have d1 : decide (kTo h f i k < 0) = true := decide_eq_true q
          have HE3 : Hid (peakKeyV n L g i = minTo h N) := by show _ = _; rw [HE2.out, ← HKN.out, if_pos q]
          clear q
          go_wp2_with fail
          refine (specGridRange_any _ _ _ _ _ _ HG3.out hn HL.out).mono ?_
          rintro e w5 ⟨rfl, hb5⟩
          rw [HRg.out, ← HH.out, ← HN.out]
          go_wp2_with fail
          go_ret
          exact ⟨ret_int HE3.out.symm, hbz.trans (hb5.mono hbz.size)⟩
        · have d1 : decide (kTo h f i k < 0) = false := decide_eq_false q
          have HE3 : Hid (peakKeyV n L g i = kTo h f i k) := by show _ = _; rw [HE2.out, ← HKN.out, if_neg q]
          clear q
          go_wp2_with fail
          go_ret
          exact ⟨ret_int HE3.out.symm, hbz⟩

end Go.Proofs.Ytgekjhmjjjkibaa
