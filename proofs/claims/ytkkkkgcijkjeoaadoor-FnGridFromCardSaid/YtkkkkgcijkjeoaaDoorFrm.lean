/- Texts cut at a byte; words of two digits: what the library's and the program's functions return. -/
import Derived.Test.YtkkkkgcijkjeoaaDoorPlG
import Derived.Test.YtkkkkgcijkjeoaaDoorShelf
import Derived.Test.YtkkkkgcijkjeoaaDoorGSet
import Derived.Lib.SplitLaws
import Derived.Deep.DeepCutAuto
namespace Go.Proofs.YtkkkkgcijkjeoaaDoor
set_option linter.unusedVariables false
set_option linter.unusedSimpArgs false
open Go.RowKit

/-- A block of strings. -/
def Strs (w : World) (B : Nat) (ls : List (List UInt8)) : Prop := ∃ cur, w.heap[B]? = some (.cells cur 9 (0, 0)) ∧ ∀ k, k < ls.length → cur[k]? = some (.string ⟨(ls.getD k []).toArray⟩)
theorem Strs.lt {w : World} {B : Nat} {ls : List (List UInt8)} (h : Strs w B ls) : B < w.heap.size := by
  obtain ⟨cur, hc, _⟩ := h
  exact (Array.getElem?_eq_some_iff.1 hc).1
theorem Strs.below {w w' : World} {B : Nat} {ls : List (List UInt8)} (h : Strs w B ls) (hb : Below w.heap.size w w') : Strs w' B ls := by
  have hl := h.lt
  obtain ⟨cur, hc, hk⟩ := h
  exact ⟨cur, (hb.block B hl).trans hc, hk⟩
theorem Strs.cell {w : World} {B : Nat} {ls : List (List UInt8)} (h : Strs w B ls) {k : Nat} (hk : k < ls.length) : w.cell? ⟨B, k, none⟩ = some (.string ⟨(ls.getD k []).toArray⟩) := by
  obtain ⟨cur, hc, h⟩ := h
  simp [World.cell?, hc, h k hk]
theorem Strs.grew {w w' : World} {B lo n : Nat} {ls : List (List UInt8)} {e : TypeId} {v v' : Value} {V : Nat → Value} (h : Strs w B ls) (hg : Grew w w' v v') (ho : OwnS w lo e v n V) (he : e ≠ 9) : Strs w' B ls := by
  have hl := h.lt
  obtain ⟨cur, hc, hk⟩ := h
  refine ⟨cur, (hg.block B hl fun e' => ?_).trans hc, hk⟩
  obtain ⟨c2, h2⟩ := ho.type e'
  rw [hc] at h2
  injection h2 with h2
  injection h2 with _ h2
  exact he h2.symm

def RetSp (ls : List (List UInt8)) (w : World) (e : Ending) (w' : World) : Prop :=
  ∃ B, e = .returned (.slice (some ⟨B, 0, none⟩) ls.length ls.length) ∧ w.heap.size ≤ B ∧ Strs w' B ls ∧ Below w.heap.size w w'
theorem split_any (c : UInt8) (s : ByteArray) (m : Int) (w : World) (hs : s.size ≤ 4000000) (hm : w.cell? ⟨0, 0, none⟩ = some (.int .i64 m)) :
    Calls Tryd.prog 26 #[.string s, .string ⟨#[c]⟩] w (RetSp (cutC c s.data.toList) w) := by
  refine (Tryd.strings_Split s ⟨#[c]⟩ m w (by omega) hm (Nat.le_refl _)).mono ?_
  rintro e w' ⟨rfl, rfl⟩
  have hp := split_pieces c s
  have hl : Lib.countB s ⟨#[c]⟩ + 1 = (cutC c s.data.toList).length := by
    rw [← Lib.splitB_all ⟨#[c]⟩ (Nat.le_refl _) 0 _ s rfl, hp, List.length_map]
  rw [hl, hp]
  refine ⟨w.heap.size, rfl, Nat.le_refl _, ⟨_, heap_alloc_new w _, fun k hk => ?_⟩, below_alloc _ _⟩
  simp [hk]

instance (w : List UInt8) : Decidable (DigW w) := by unfold DigW; infer_instance
def digV (l : List UInt8) : Int := if DigW l then valT l else 0
def digOk (l : List UInt8) : Bool := decide (DigW l)
theorem dig_yes {l : List UInt8} (h : DigW l) : digV l = valT l ∧ digOk l = true := ⟨by unfold digV; exact if_pos h, decide_eq_true h⟩
theorem dig_no {l : List UInt8} (h : ¬ DigW l) : digV l = 0 ∧ digOk l = false := ⟨by unfold digV; exact if_neg h, decide_eq_false h⟩
theorem dig_ok {l : List UInt8} (h : digOk l = true) : DigW l := by
  by_cases hd : DigW l
  · exact hd
  · rw [(dig_no hd).2] at h; cases h
set_option maxHeartbeats 1000000 in
theorem twoDigits_any (l : List UInt8) (w : World) (hl : l.length ≤ 4000000) : Calls Tryd.prog 27 #[.string ⟨l.toArray⟩] w (RetV (.tuple #[.int .i64 (digV l), .bool (digOk l)]) w) := by
  by_cases h2 : l.length = 2
  · match l, h2 with
    | [a, b], _ =>
      obtain ⟨x, hx⟩ : ∃ x, x = a.toNat := ⟨_, rfl⟩
      obtain ⟨y, hy⟩ : ∃ y, y = b.toNat := ⟨_, rfl⟩
      have hxl : x < 256 := by rw [hx]; exact a.toNat_lt
      have hyl : y < 256 := by rw [hy]; exact b.toNat_lt
      have HN : Hid (¬ (48 ≤ x ∧ x ≤ 57 ∧ 48 ≤ y ∧ y ≤ 57) → digV [a, b] = 0 ∧ digOk [a, b] = false) := fun h => by
        have hd : ¬ DigW [a, b] := fun hd => h (by
          obtain ⟨_, h1, h2, h3, h4⟩ := hd
          have e0 : byteT [a, b] 0 = (a.toNat : Nat) := rfl
          have e1 : byteT [a, b] 1 = (b.toNat : Nat) := rfl
          rw [e0] at h1 h2
          rw [e1] at h3 h4
          omega)
        exact dig_no hd
      have HY : Hid (48 ≤ x ∧ x ≤ 57 ∧ 48 ≤ y ∧ y ≤ 57 → digV [a, b] = 10 * ((x : Int) - 48) + ((y : Int) - 48) ∧ digOk [a, b] = true) := fun h => by
        have e0 : byteT [a, b] 0 = (a.toNat : Nat) := rfl
        have e1 : byteT [a, b] 1 = (b.toNat : Nat) := rfl
        have hd : DigW [a, b] := by unfold DigW; rw [e0, e1]; exact ⟨rfl, by omega, by omega, by omega, by omega⟩
        refine ⟨(dig_yes hd).1.trans ?_, (dig_yes hd).2⟩
        unfold valT
        rw [e0, e1, hx, hy]
      have e0 : ((⟨#[a, b]⟩ : ByteArray)[0]'(Nat.zero_lt_succ 1)).toNat = x := by rw [hx]; rfl
      have e1 : ((⟨#[a, b]⟩ : ByteArray)[1]'(Nat.lt_succ_self 1)).toNat = y := by rw [hy]; rfl
      clear hx hy
      by_cases hc : 48 ≤ x ∧ x ≤ 57 ∧ 48 ≤ y ∧ y ≤ 57
      · obtain ⟨v1, v2⟩ := HY.out hc
        have HV := Lib.hid v1
        have HO := Lib.hid v2
        rw [HV.out, HO.out]
        obtain ⟨c1, c2, c3, c4⟩ := hc
        clear v1 v2
        go_enter Tryd.func27, Tryd.ntmps27
        go_wp2_with fail
        go_quiet (fail)
        go_wp2_with fail
        go_ret2
        exact ⟨rfl, below_drewN (Below.refl _ _) _⟩
      · obtain ⟨v1, v2⟩ := HN.out hc
        have HV := Lib.hid v1
        have HO := Lib.hid v2
        rw [HV.out, HO.out]
        clear v1 v2
        go_enter Tryd.func27, Tryd.ntmps27
        go_wp2_with fail
        all_goals first
          | (exfalso; omega)
          | (go_ret2; exact ⟨rfl, Below.refl _ _⟩)
  · have hd : ¬ DigW l := fun hd => h2 hd.1
    have HV : Hid (digV l = 0) := (dig_no hd).1
    have HO : Hid (digOk l = false) := (dig_no hd).2
    rw [HV.out, HO.out]
    have d1 : ((l.length : Int) != 2) = true := by rw [bne_iff_ne]; omega
    clear hd h2
    go_enter Tryd.func27, Tryd.ntmps27
    go_wp2_with fail
    go_ret2
    exact ⟨rfl, Below.refl _ _⟩

end Go.Proofs.YtkkkkgcijkjeoaaDoor
