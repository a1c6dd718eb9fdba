/- Plain words: a text cut at a byte; the text of a grid read back. -/
import Derived.Test.YtkkkkgcijkjeoaaDoorPlX
import Derived.Lib.Split
namespace Go.Proofs.YtkkkkgcijkjeoaaDoor
set_option linter.unusedVariables false
set_option linter.unusedSimpArgs false

def consHead (x : UInt8) : List (List UInt8) → List (List UInt8)
  | [] => [[x]]
  | p :: ps => (x :: p) :: ps
/-- A text cut at a byte. -/
def cutC (c : UInt8) : List UInt8 → List (List UInt8)
  | [] => [[]]
  | x :: r => if x = c then [] :: cutC c r else consHead x (cutC c r)
def joinC (c : UInt8) : List (List UInt8) → List UInt8
  | [] => []
  | p :: ps => if ps.isEmpty then p else p ++ c :: joinC c ps
theorem cutC_ne (c : UInt8) : ∀ s, cutC c s ≠ []
  | [] => by simp [cutC]
  | x :: r => by
    unfold cutC
    split
    · simp
    · cases h : cutC c r <;> simp [consHead]
theorem joinC_consHead (c x : UInt8) : ∀ l, l ≠ [] → joinC c (consHead x l) = x :: joinC c l
  | [], h => absurd rfl h
  | p :: ps, _ => by
    unfold consHead joinC
    by_cases e : ps.isEmpty = true
    · rw [if_pos e, if_pos e]
    · rw [if_neg e, if_neg e]; rfl
theorem join_cut (c : UInt8) : ∀ s, joinC c (cutC c s) = s
  | [] => rfl
  | x :: r => by
    unfold cutC
    by_cases e : x = c
    · rw [if_pos e, joinC, if_neg (by simpa using cutC_ne c r), join_cut c r, e]; rfl
    · rw [if_neg e, joinC_consHead _ _ _ (cutC_ne c r), join_cut c r]
theorem cut_app {c : UInt8} (r : List UInt8) : ∀ {p : List UInt8}, (∀ x ∈ p, x ≠ c) → cutC c (p ++ c :: r) = p :: cutC c r
  | [], _ => by simp [cutC]
  | x :: p, h => by
    rw [List.cons_append, cutC, if_neg (h x (by simp)), cut_app r (fun y hy => h y (by simp [hy]))]; rfl
theorem cut_one {c : UInt8} : ∀ {p : List UInt8}, (∀ x ∈ p, x ≠ c) → cutC c p = [p]
  | [], _ => rfl
  | x :: p, h => by
    rw [cutC, if_neg (h x (by simp)), cut_one (fun y hy => h y (by simp [hy]))]; rfl
theorem cut_snoc {c : UInt8} {q : List UInt8} (hq : ∀ x ∈ q, x ≠ c) : ∀ s, cutC c (s ++ c :: q) = cutC c s ++ [q]
  | [] => by simp [cutC, cut_one hq]
  | x :: r => by
    rw [List.cons_append, cutC, cutC, cut_snoc hq r]
    by_cases e : x = c
    · rw [if_pos e, if_pos e]; rfl
    · rw [if_neg e, if_neg e]
      cases h : cutC c r with
      | nil => exact absurd h (cutC_ne c r)
      | cons p ps => rfl

theorem idx_no {c : UInt8} : ∀ {s : List UInt8}, Lib.index s [c] = -1 → ∀ x ∈ s, x ≠ c
  | [], _ => by simp
  | b :: l, h => by
    unfold Lib.index at h
    by_cases e : (c == b) = true
    · simp [List.isPrefixOf, e] at h
    · have hb : ¬ c = b := by simpa using e
      have hp : ([c].isPrefixOf (b :: l)) = false := by simp [List.isPrefixOf, hb]
      rw [hp] at h
      simp only [Bool.false_eq_true, if_false] at h
      by_cases e2 : (Lib.index l [c] == -1) = true
      · intro x hx
        rcases List.mem_cons.1 hx with rfl | hx
        · exact fun e => hb e.symm
        · exact idx_no (beq_iff_eq.1 e2) x hx
      · rw [if_neg e2] at h
        have := Lib.index_ge l [c]
        omega
theorem idx_yes {c : UInt8} : ∀ {s : List UInt8} {i : Nat}, Lib.index s [c] = i → ∃ p r, s = p ++ c :: r ∧ p.length = i ∧ ∀ x ∈ p, x ≠ c
  | [], i, h => by
    simp [Lib.index] at h
  | b :: l, i, h => by
    unfold Lib.index at h
    by_cases e : c = b
    · subst e
      have hp : ([c].isPrefixOf (c :: l)) = true := by simp [List.isPrefixOf]
      rw [hp] at h
      simp only [if_true] at h
      exact ⟨[], l, rfl, by simp; omega, by simp⟩
    · have hp : ([c].isPrefixOf (b :: l)) = false := by simp [List.isPrefixOf, e]
      rw [hp] at h
      simp only [Bool.false_eq_true, if_false] at h
      by_cases e2 : (Lib.index l [c] == -1) = true
      · rw [if_pos e2] at h; omega
      · rw [if_neg e2] at h
        obtain ⟨j, rfl⟩ : ∃ j, i = j + 1 := ⟨i - 1, by have := Lib.index_ge l [c]; have : Lib.index l [c] ≠ -1 := fun e => e2 (beq_iff_eq.2 e); omega⟩
        obtain ⟨p, r, e3, e4, e5⟩ := idx_yes (c := c) (s := l) (i := j) (by omega)
        refine ⟨b :: p, r, by rw [e3]; rfl, by simp [e4], fun x hx => ?_⟩
        rcases List.mem_cons.1 hx with rfl | hx
        · exact fun e' => e e'.symm
        · exact e5 x hx
theorem split_cut (c : UInt8) : ∀ (k : Nat) (s : List UInt8), s.length ≤ k → Lib.splitK [c] 0 (Lib.count s [c]) s = cutC c s := by
  intro k
  induction k with
  | zero =>
    intro s hs
    obtain rfl : s = [] := List.eq_nil_of_length_eq_zero (by omega)
    rw [Lib.count_miss (by rfl)]
    rfl
  | succ k ih =>
    intro s hs
    by_cases e : Lib.index s [c] = -1
    · rw [Lib.count_miss e, cut_one (idx_no e)]; rfl
    · obtain ⟨i, hi⟩ : ∃ i : Nat, Lib.index s [c] = i := ⟨(Lib.index s [c]).toNat, by have := Lib.index_ge s [c]; omega⟩
      obtain ⟨p, r, rfl, hp, hno⟩ := idx_yes hi
      have hd : (p ++ c :: r).drop (i + [c].length) = r := by
        rw [← hp]
        simp
      rw [Lib.count_hit (by simp) hi, hd, Nat.add_comm 1, Lib.splitK, if_neg (by rw [hi]; simp), hi, Int.toNat_natCast, hd, Nat.add_zero]
      rw [ih r (by simp only [List.length_append, List.length_cons] at hs; omega), cut_app r hno, ← hp]
      simp
/-- What strings.Split makes of a text at a byte. -/
theorem split_pieces (c : UInt8) (s : ByteArray) : Lib.splitB ⟨#[c]⟩ 0 (Lib.countB s ⟨#[c]⟩) s = (cutC c s.data.toList).map fun l => ⟨l.toArray⟩ := by
  have h := Lib.splitB_data ⟨#[c]⟩ 0 (Lib.countB s ⟨#[c]⟩) s
  rw [show Lib.countB s ⟨#[c]⟩ = Lib.count s.data.toList [c] from rfl] at h ⊢
  rw [show (⟨#[c]⟩ : ByteArray).data.toList = [c] from rfl, split_cut c _ _ (Nat.le_refl _)] at h
  rw [← h, List.map_map]
  conv => lhs; rw [← List.map_id (Lib.splitB ⟨#[c]⟩ 0 (Lib.count s.data.toList [c]) s)]
  exact List.map_congr_left fun x _ => by simp

/-- The lines of a text; the words of a line; the heights that they are. -/
def linesT (s : List UInt8) : List (List UInt8) := cutC 47 s
def wordsT (s : List UInt8) (r : Nat) : List (List UInt8) := cutC 32 ((linesT s).getD r [])
def wordT (s : List UInt8) (r c : Nat) : List UInt8 := (wordsT s r).getD c []
def nT (s : List UInt8) : Nat := (linesT s).length
def LT (s : List UInt8) (r : Nat) : Nat := (wordsT s r).length
def byteT (w : List UInt8) (k : Nat) : Int := ((w.getD k 0).toNat : Nat)
def valT (w : List UInt8) : Int := 10 * (byteT w 0 - 48) + (byteT w 1 - 48)
def gT (s : List UInt8) (r c : Nat) : Int := valT (wordT s r c)
/-- A word of two digits. -/
def DigW (w : List UInt8) : Prop := w.length = 2 ∧ 48 ≤ byteT w 0 ∧ byteT w 0 ≤ 57 ∧ 48 ≤ byteT w 1 ∧ byteT w 1 ≤ 57
def AllW (p : List UInt8 → Prop) (s : List UInt8) : Prop := ∀ r, r < nT s → ∀ c, c < LT s r → p (wordT s r c)
/-- The program reads the text as a grid; the reference does. -/
def FromI (s : List UInt8) : Prop := s.length ≤ 147 ∧ AllW DigW s ∧ Valid (nT s) (LT s) (gT s)
def FromS (s : List UInt8) : Prop := AllW (fun w => w.length = 2) s ∧ textV (nT s) (LT s) (gT s) = s

theorem cellT_dig {x : Int} (h0 : 0 ≤ x) (h9 : x ≤ 99) : DigW (cellT x) ∧ valT (cellT x) = x ∧ ∀ b ∈ cellT x, b ≠ 32 ∧ b ≠ 47 := by
  obtain ⟨x, rfl⟩ := Int.eq_ofNat_of_zero_le h0
  have h1 := digit_u8 (x / 10) (by omega)
  have h2 := digit_u8 (x % 10) (by omega)
  have e0 : byteT (cellT (x : Int)) 0 = 48 + ((x / 10 : Nat) : Int) := h1
  have e1 : byteT (cellT (x : Int)) 1 = 48 + ((x % 10 : Nat) : Int) := h2
  refine ⟨⟨rfl, by omega, by omega, by omega, by omega⟩, by unfold valT; omega, fun b hb => ?_⟩
  have hb : b = UInt8.ofNat (48 + x / 10) ∨ b = UInt8.ofNat (48 + x % 10) := by
    simpa [cellT] using hb
  have hn : 48 ≤ b.toNat := by
    rcases hb with rfl | rfl
    · omega
    · omega
  exact ⟨fun e => by rw [e] at hn; exact absurd hn (by decide), fun e => by rw [e] at hn; exact absurd hn (by decide)⟩
/-- A word of two digits is the text of its height. -/
theorem dig_cell {w : List UInt8} (h : DigW w) : w = cellT (valT w) ∧ 0 ≤ valT w ∧ valT w ≤ 99 := by
  obtain ⟨hl, h1, h2, h3, h4⟩ := h
  match w, hl with
  | [a, b], _ =>
    have ea : byteT [a, b] 0 = (a.toNat : Nat) := rfl
    have eb : byteT [a, b] 1 = (b.toNat : Nat) := rfl
    rw [ea] at h1 h2
    rw [eb] at h3 h4
    have hv : valT [a, b] = ((10 * (a.toNat - 48) + (b.toNat - 48) : Nat) : Int) := by unfold valT; rw [ea, eb]; omega
    refine ⟨?_, by omega, by omega⟩
    rw [hv]
    unfold cellT
    rw [Int.toNat_natCast]
    have f1 : 48 + (10 * (a.toNat - 48) + (b.toNat - 48)) / 10 = a.toNat := by omega
    have f2 : 48 + (10 * (a.toNat - 48) + (b.toNat - 48)) % 10 = b.toNat := by omega
    rw [f1, f2, UInt8.ofNat_toNat, UInt8.ofNat_toNat]
/-- The words of a row; the lines of a grid. -/
theorem cut_row {f : Nat → Int} : ∀ {k : Nat}, 1 ≤ k → (∀ c, c < k → 0 ≤ f c ∧ f c ≤ 99) → cutC 32 (rowT f k) = (List.range k).map fun c => cellT (f c)
  | 0, h, _ => by omega
  | k + 1, _, h => by
    have hc := (cellT_dig (h k (by omega)).1 (h k (by omega)).2).2.2
    by_cases h0 : k = 0
    · subst h0
      rw [rowT, if_pos rfl, rowT, List.nil_append, cut_one (fun x hx => (hc x hx).1)]
      rfl
    · rw [rowT, if_neg h0, List.append_assoc, List.singleton_append, cut_snoc (fun x hx => (hc x hx).1), cut_row (by omega) (fun c hc => h c (by omega)), List.range_succ, List.map_append]
      rfl
theorem row_no47 {f : Nat → Int} : ∀ {k : Nat}, (∀ c, c < k → 0 ≤ f c ∧ f c ≤ 99) → ∀ x ∈ rowT f k, x ≠ 47
  | 0, _ => by simp [rowT]
  | k + 1, h => by
    have hc := (cellT_dig (h k (by omega)).1 (h k (by omega)).2).2.2
    have ih := row_no47 (k := k) (fun c hc => h c (by omega))
    intro x hx
    rw [rowT] at hx
    rcases List.mem_append.1 hx with hx | hx
    · by_cases h0 : k = 0
      · rw [if_pos h0] at hx; exact ih x hx
      · rw [if_neg h0] at hx
        rcases List.mem_append.1 hx with hx | hx
        · exact ih x hx
        · have : x = 32 := by simpa using hx
          rw [this]; decide
    · exact (hc x hx).2
theorem cut_grid {C : Nat} {g : Nat → Nat → Int} : ∀ {n : Nat}, 1 ≤ n → (∀ r c, r < n → c < C → 0 ≤ g r c ∧ g r c ≤ 99) → cutC 47 (gridT C g n) = (List.range n).map fun r => rowT (g r) C
  | 0, h, _ => by omega
  | n + 1, _, h => by
    have hr := row_no47 (f := g n) (k := C) (fun c hc => h n c (by omega) hc)
    by_cases h0 : n = 0
    · subst h0
      rw [gridT, if_pos rfl, gridT, List.nil_append, cut_one hr]
      rfl
    · rw [gridT, if_neg h0, List.append_assoc, List.singleton_append, cut_snoc hr, cut_grid (by omega) (fun r c hr hc => h r c (by omega) hc), List.range_succ, List.map_append]
      rfl
/-- A grid's text read back. -/
theorem read_back {n : Nat} {L : Nat → Nat} {g : Nat → Nat → Int} (hv : Valid n L g) : nT (gridT (L 0) g n) = n ∧ ∀ r, r < n → LT (gridT (L 0) g n) r = L 0 ∧ ∀ c, c < L 0 → wordT (gridT (L 0) g n) r c = cellT (g r c) := by
  have hr : ∀ r c, r < n → c < L 0 → 0 ≤ g r c ∧ g r c ≤ 99 := fun r c h1 h2 => (hv.2.2.2.2 r h1).2 c h2
  have h1 := cut_grid hv.1 hr
  have hl : linesT (gridT (L 0) g n) = (List.range n).map fun r => rowT (g r) (L 0) := h1
  refine ⟨by unfold nT; rw [hl]; simp, fun r h => ?_⟩
  have hw : wordsT (gridT (L 0) g n) r = (List.range (L 0)).map fun c => cellT (g r c) := by
    unfold wordsT
    rw [hl, show ((List.range n).map fun r => rowT (g r) (L 0)).getD r [] = rowT (g r) (L 0) by simp [h], cut_row hv.2.2.1 (fun c hc => hr r c h hc)]
  refine ⟨by unfold LT; rw [hw]; simp, fun c hc => ?_⟩
  unfold wordT
  rw [hw]
  simp [hc]

theorem list_range {α : Type} (l : List α) (d : α) : l = (List.range l.length).map fun i => l.getD i d := by
  apply List.ext_getElem
  · simp
  · intro i h1 h2
    simp [h1]
theorem join_row {f : Nat → Int} {k : Nat} (hk : 1 ≤ k) (h : ∀ c, c < k → 0 ≤ f c ∧ f c ≤ 99) : joinC 32 ((List.range k).map fun c => cellT (f c)) = rowT f k := by
  rw [← cut_row hk h, join_cut]
theorem join_grid {C n : Nat} {g : Nat → Nat → Int} (hn : 1 ≤ n) (h : ∀ r c, r < n → c < C → 0 ≤ g r c ∧ g r c ≤ 99) : joinC 47 ((List.range n).map fun r => rowT (g r) C) = gridT C g n := by
  rw [← cut_grid hn h, join_cut]
theorem FromI.text {s : List UInt8} (h : FromI s) : gridT (LT s 0) (gT s) (nT s) = s := by
  obtain ⟨_, hd, hv⟩ := h
  have hr : ∀ r c, r < nT s → c < LT s 0 → 0 ≤ gT s r c ∧ gT s r c ≤ 99 := fun r c h1 h2 => (hv.2.2.2.2 r h1).2 c h2
  have hline : ∀ r, r < nT s → (linesT s).getD r [] = rowT (gT s r) (LT s 0) := fun r h1 => by
    have hL := (hv.2.2.2.2 r h1).1
    have hw : wordsT s r = (List.range (LT s 0)).map fun c => cellT (gT s r c) := by
      have := list_range (wordsT s r) []
      rw [show (wordsT s r).length = LT s 0 from hL] at this
      rw [this]
      refine List.map_congr_left fun c hc => ?_
      have hc := List.mem_range.1 hc
      have h3 := (dig_cell (hd r h1 c (by rw [hL]; exact hc))).1
      exact h3
    rw [← join_cut 32 ((linesT s).getD r []), show cutC 32 ((linesT s).getD r []) = wordsT s r from rfl, hw, join_row hv.2.2.1 (fun c hc => hr r c h1 hc)]
  have hl : linesT s = (List.range (nT s)).map fun r => rowT (gT s r) (LT s 0) := by
    have := list_range (linesT s) []
    rw [show (linesT s).length = nT s from rfl] at this
    rw [this]
    refine List.map_congr_left fun r h1 => ?_
    exact hline r (List.mem_range.1 h1)
  rw [← join_grid hv.1 hr, ← hl]
  exact join_cut 47 s
theorem from_iff (s : List UInt8) : FromI s ↔ FromS s := by
  constructor
  · intro h
    exact ⟨fun r hr c hc => (h.2.1 r hr c hc).1, (if_pos h.2.2).trans h.text⟩
  · rintro ⟨hw, ht⟩
    by_cases hv : Valid (nT s) (LT s) (gT s)
    · have hs : gridT (LT s 0) (gT s) (nT s) = s := (if_pos hv).symm.trans ht
      have hrb := read_back hv
      rw [hs] at hrb
      have hlen := gridT_len (LT s 0) (gT s) hv.2.2.1 (nT s)
      have h49 : LT s 0 * nT s ≤ 49 := Nat.le_trans (Nat.mul_le_mul hv.2.2.2.1 hv.2.1) (by decide)
      refine ⟨by rw [← hs]; omega, fun r hr c hc => ?_, hv⟩
      obtain ⟨hL, hg⟩ := hv.2.2.2.2 r hr
      rw [hL] at hc
      rw [(hrb.2 r hr).2 c hc]
      exact (cellT_dig (hg c hc).1 (hg c hc).2).1
    · have hs : s = [] := ht.symm.trans (if_neg hv)
      subst hs
      have := hw 0 (by decide) 0 (by decide)
      exact absurd this (by decide)
theorem FromI.len {s : List UInt8} (h : FromI s) : s.length % 3 = 2 := by
  have hlen := gridT_len (LT s 0) (gT s) h.2.2.2.2.1 (nT s)
  rw [h.text] at hlen
  have : 1 ≤ LT s 0 * nT s := Nat.mul_pos h.2.2.2.2.1 h.2.2.1
  omega
theorem from_text {n : Nat} {L : Nat → Nat} {g : Nat → Nat → Int} (hv : Valid n L g) : FromI (gridT (L 0) g n) ∧ nT (gridT (L 0) g n) = n ∧ ∀ r, r < n → LT (gridT (L 0) g n) r = L r ∧ ∀ c, c < L r → gT (gridT (L 0) g n) r c = g r c := by
  obtain ⟨h1, h2⟩ := read_back hv
  have h49 : L 0 * n ≤ 49 := Nat.le_trans (Nat.mul_le_mul hv.2.2.2.1 hv.2.1) (by decide)
  have hlen := gridT_len (L 0) g hv.2.2.1 n
  have hg : ∀ r, r < n → ∀ c, c < L 0 → gT (gridT (L 0) g n) r c = g r c := fun r hr c hc => by
    unfold gT
    rw [(h2 r hr).2 c hc]
    exact (cellT_dig ((hv.2.2.2.2 r hr).2 c hc).1 ((hv.2.2.2.2 r hr).2 c hc).2).2.1
  refine ⟨⟨by omega, fun r hr c hc => ?_, ?_⟩, h1, fun r hr => ⟨(h2 r hr).1.trans (hv.2.2.2.2 r hr).1.symm, fun c hc => hg r hr c (by rw [(hv.2.2.2.2 r hr).1] at hc; exact hc)⟩⟩
  · rw [h1] at hr
    rw [(h2 r hr).1] at hc
    rw [(h2 r hr).2 c hc]
    exact (cellT_dig ((hv.2.2.2.2 r hr).2 c hc).1 ((hv.2.2.2.2 r hr).2 c hc).2).1
  · have h0 := (h2 0 hv.1).1
    refine ⟨by rw [h1]; exact hv.1, by rw [h1]; exact hv.2.1, by rw [h0]; exact hv.2.2.1, by rw [h0]; exact hv.2.2.2.1, fun r hr => ?_⟩
    rw [h1] at hr
    refine ⟨(h2 r hr).1.trans h0.symm, fun c hc => ?_⟩
    rw [h0] at hc
    rw [hg r hr c hc]
    exact (hv.2.2.2.2 r hr).2 c hc

theorem cutC_len (c : UInt8) : ∀ (s p : List UInt8), p ∈ cutC c s → p.length ≤ s.length
  | [], p, h => by
    have : p = [] := by simpa [cutC] using h
    rw [this]; exact Nat.le_refl _
  | x :: r, p, h => by
    unfold cutC at h
    by_cases e : x = c
    · rw [if_pos e] at h
      rcases List.mem_cons.1 h with rfl | h
      · exact Nat.zero_le _
      · have := cutC_len c r p h; simp only [List.length_cons]; omega
    · rw [if_neg e] at h
      cases hr : cutC c r with
      | nil => exact absurd hr (cutC_ne c r)
      | cons q qs =>
        rw [hr] at h
        have ih := cutC_len c r
        rw [hr] at ih
        rcases List.mem_cons.1 h with rfl | h
        · have := ih q (by simp); simp only [List.length_cons]; omega
        · have := ih p (by simp [h]); simp only [List.length_cons]; omega
theorem cutC_num (c : UInt8) : ∀ s : List UInt8, (cutC c s).length ≤ s.length + 1
  | [] => by simp [cutC]
  | x :: r => by
    have ih := cutC_num c r
    unfold cutC
    by_cases e : x = c
    · rw [if_pos e]; simp only [List.length_cons]; omega
    · rw [if_neg e]
      cases hr : cutC c r with
      | nil => exact absurd hr (cutC_ne c r)
      | cons q qs => rw [hr] at ih; simp only [consHead, List.length_cons] at ih ⊢; omega
theorem line_len (l : List UInt8) (r : Nat) : ((linesT l).getD r []).length ≤ l.length := by
  by_cases h : r < (linesT l).length
  · have : (linesT l).getD r [] ∈ linesT l := by simp [h]
    exact cutC_len 47 l _ this
  · simp [h]
theorem word_len (l : List UInt8) (r c : Nat) : (wordT l r c).length ≤ l.length := by
  unfold wordT
  by_cases h : c < (wordsT l r).length
  · have : (wordsT l r).getD c [] ∈ wordsT l r := by simp [h]
    have h1 := cutC_len 32 _ _ this
    have h2 := line_len l r
    omega
  · simp [h]
theorem nT_le (l : List UInt8) : nT l ≤ l.length + 1 := cutC_num 47 l
theorem LT_le (l : List UInt8) (r : Nat) : LT l r ≤ l.length + 1 := by
  have h1 := cutC_num 32 ((linesT l).getD r [])
  have h2 := line_len l r
  exact Nat.le_trans h1 (by omega)

end Go.Proofs.YtkkkkgcijkjeoaaDoor
