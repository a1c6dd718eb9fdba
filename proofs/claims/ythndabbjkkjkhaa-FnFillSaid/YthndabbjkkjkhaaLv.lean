/- Whether water leaves a cell: what the program's function returns. -/
import Derived.Test.YthndabbjkkjkhaaSFil
import Derived.Test.YthndabbjkkjkhaaPlR
namespace Go.Proofs.Ythndabbjkkjkhaa
set_option linter.unusedVariables false
set_option linter.unusedSimpArgs false
open Go.RowKit

theorem least_nat {p : Nat → Prop} : ∀ n, p n → ∃ k, p k ∧ ∀ m, p m → k ≤ m
  | 0, h => ⟨0, h, fun _ _ => Nat.zero_le _⟩
  | n + 1, h => by
    by_cases h0 : ∃ k, k ≤ n ∧ p k
    · obtain ⟨k, hk, hp⟩ := h0
      have aux : ∀ d k, k ≤ d → p k → ∃ k, p k ∧ ∀ m, p m → k ≤ m := by
        intro d
        induction d with
        | zero => intro k hk hp; exact ⟨k, hp, fun m _ => by omega⟩
        | succ d ih =>
          intro k hk hp
          by_cases h1 : ∃ m, m < k ∧ p m
          · obtain ⟨m, hm, hpm⟩ := h1
            exact ih m (by omega) hpm
          · exact ⟨k, hp, fun m hpm => Nat.le_of_not_lt fun hlt => h1 ⟨m, hlt, hpm⟩⟩
      exact aux k k (Nat.le_refl _) hp
    · exact ⟨n + 1, h, fun m hm => Nat.le_of_not_lt fun hlt => h0 ⟨m, by omega, hm⟩⟩

theorem fillV_is {R C : Nat} {h : Nat → Int} (hh : ∀ i, i < R * C → 0 ≤ h i ∧ h i ≤ 99) : FillF R C h (fillV R C h) := by
  intro i hi
  have e99 : Esc R C h ((99 : Nat) : Int) i := esc_all (fun j hj => (hh j hj).2) i i (Nat.le_refl _) hi
  obtain ⟨k, hk, hmin⟩ := least_nat (p := fun k : Nat => Esc R C h (k : Int) i) 99 e99
  have hs : ∀ t, (k : Int) ≤ t ↔ Esc R C h t i := fun t => by
    refine ⟨fun ht => hk.mono ht, fun e => ?_⟩
    have h0 := e.le
    have h1 := (hh i hi).1
    obtain ⟨m, rfl⟩ := Int.eq_ofNat_of_zero_le (by omega : 0 ≤ t)
    have := hmin m e
    omega
  exact Classical.epsilon_spec (p := fun v : Int => ∀ t, v ≤ t ↔ Esc R C h t i) ⟨k, hs⟩

/-- Water leaves the cell. -/
noncomputable def lvB (R C : Nat) (h : Nat → Int) (i : Nat) : Bool := decide (fillV R C h i = h i)
theorem lvB_iff {R C : Nat} {h : Nat → Int} (hh : ∀ i, i < R * C → 0 ≤ h i ∧ h i ≤ 99) {i : Nat} (hi : i < R * C) : lvB R C h i = true ↔ Esc R C h (h i) i := by
  have hf := fillV_is hh
  have h1 := hf.ge hi
  rw [← hf i hi (h i)]
  unfold lvB
  rw [decide_eq_true_eq]; omega
theorem esc_lnk {R C : Nat} {h : Nat → Int} {t : Int} {i : Nat} : Esc R C h t i ↔ ∃ y, brd R C y = true ∧ Lnk (R * C) (nearL R C) (fun x => h x ≤ t) y i := by
  constructor
  · intro e
    obtain ⟨y, h1, h2⟩ := e (fun x => ∃ y, brd R C y = true ∧ Lnk (R * C) (nearL R C) (fun x => h x ≤ t) x y) (fun x hx hs => ⟨x, hs.1, Lnk.refl hx hs.2⟩) (fun x j hx ho hj ⟨y, h1, h2⟩ => ⟨y, h1, h2.edge hx ho hj⟩)
    exact ⟨y, h1, h2.symm (nearL_mut R C)⟩
  · rintro ⟨y, h1, h2⟩
    exact (h2.symm (nearL_mut R C)) (fun x => Esc R C h t x) (fun x hx hs => Con.start hx ⟨by rw [hs.1]; exact h1, hs.2⟩) (fun x j hx ho hj hp => Con.step hx ho hj hp)

theorem OwnS.take {w : World} {lo : Nat} {e : TypeId} {A : Option Addr} {n c : Nat} {V : Nat → Value} (h : OwnS w lo e (.slice A n c) n V) {m : Nat} (hm : m ≤ n) : OwnS w lo e (.slice A m c) m V := by
  refine ⟨by simp, ?_⟩
  rcases h.2 with ⟨hv, h0⟩ | ⟨g, cap, cur, hv, hlo, hg, hc, hmx, hs, ht⟩
  · injection hv with h1 h2 h3
    subst h1 h2 h3
    have : m = 0 := by omega
    subst this
    exact .inl ⟨rfl, rfl⟩
  · injection hv with h1 h2 h3
    subst h1 h3
    refine .inr ⟨g, c, cur, rfl, hlo, hg, by omega, hmx, hs, ?_⟩
    rw [Nat.mul_one] at ht ⊢
    have : cur.toList.take m = (cur.toList.take n).take m := by rw [List.take_take, Nat.min_eq_left hm]
    rw [this, ht, ← List.map_take, List.take_range, Nat.min_eq_left hm]

theorem OwnS.one (w : World) (lo : Nat) (e : TypeId) (x : Value) (V : Nat → Value) (hlo : lo ≤ w.heap.size) (hV : V 0 = x) : OwnS (w.alloc (.cells #[x] e)) lo e (.slice (some ⟨w.heap.size, 0, none⟩) 1 1) 1 V :=
  ⟨by simp, .inr ⟨_, 1, #[x], rfl, hlo, heap_alloc_new w _, Nat.le_refl _, by decide, by simp, by simp [List.range_succ, hV]⟩⟩

/-- The cells that a list of so many numbers holds. -/
def Held (n : Nat) (s : Nat → Nat) (y : Nat) : Prop := ∃ k, k < n ∧ s k = y
theorem Held.push {n : Nat} {s : Nat → Nat} {z y : Nat} : Held (n + 1) (updN s n z) y ↔ Held n s y ∨ y = z := by
  constructor
  · rintro ⟨k, hk, e⟩
    by_cases e' : k = n
    · subst e'; rw [updN_at] at e; exact .inr e.symm
    · rw [updN_ne s z e'] at e; exact .inl ⟨k, by omega, e⟩
  · rintro (⟨k, hk, e⟩ | e)
    · exact ⟨k, by omega, by rw [updN_ne s z (by omega)]; exact e⟩
    · exact ⟨n, by omega, by rw [updN_at]; exact e.symm⟩
theorem Held.pop {n : Nat} {s : Nat → Nat} {y : Nat} (h : Held (n + 1) s y) : Held n s y ∨ y = s n := by
  obtain ⟨k, hk, e⟩ := h
  by_cases e' : k = n
  · subst e'; exact .inr e.symm
  · exact .inl ⟨k, by omega, e⟩
theorem Held.of {n : Nat} {s : Nat → Nat} {y : Nat} (h : Held n s y) : Held (n + 1) s y := by
  obtain ⟨k, hk, e⟩ := h
  exact ⟨k, by omega, e⟩

theorem Try.infoB : (Try.prog.info? 4).map (fun i => (i.zero, i.size, i.bytes)) = some (some (.bool false), 1, 1) := by kernel_rfl

/-- What holds in the search: the field, the marks, the stack. -/
structure Dfs (w wr : World) (Bf b br lo R C N : Nat) (h : Nat → Int) (mark : Nat → Bool) (v : Value) (n : Nat) (s : Nat → Nat) : Prop where
  bx : Boxed wr Bf b R C N h
  row : wr.rowIs br 4 N (fun k => .bool (mark k))
  st : OwnS wr lo 3 v n (fun k => .int .i64 (s k : Nat))
  lt : Bf < lo ∧ b < lo ∧ br < lo ∧ w.heap.size ≤ br ∧ w.heap.size ≤ lo ∧ lo ≤ wr.heap.size
  nb : b ≠ br
  bel : Below w.heap.size w wr
section
variable {w wr : World} {Bf b br lo R C N : Nat} {h : Nat → Int} {mark : Nat → Bool} {v : Value} {n : Nat} {s : Nat → Nat}
theorem Dfs.keep (H : Dfs w wr Bf b br lo R C N h mark v n s) {w1 : World} (hb : Below wr.heap.size wr w1) : Dfs w w1 Bf b br lo R C N h mark v n s :=
  ⟨H.bx.below hb, rowIs_kept H.row hb, H.st.below hb, ⟨H.lt.1, H.lt.2.1, H.lt.2.2.1, H.lt.2.2.2.1, H.lt.2.2.2.2.1, Nat.le_trans H.lt.2.2.2.2.2 hb.size⟩, H.nb, H.bel.trans (hb.mono H.bel.size)⟩
theorem Dfs.marked (H : Dfs w wr Bf b br lo R C N h mark v n s) (j : Nat) : Dfs w (wr.setCell ⟨br, j, none⟩ (.bool true)) Bf b br lo R C N h (setB mark j) v n s := by
  have n1 := blk_ne H.bx.box H.row (by decide)
  refine ⟨⟨(Below.heap_setCell _ _ _ _ n1).trans H.bx.box, H.bx.row.setOther H.nb _⟩, (H.row.set j _).congr fun i _ => ?_, H.st.of_block fun k hk => Below.heap_setCell _ _ _ _ (fun e => ?_), ⟨H.lt.1, H.lt.2.1, H.lt.2.2.1, H.lt.2.2.2.1, H.lt.2.2.2.2.1, ?_⟩, H.nb, H.bel.setCell (by exact H.lt.2.2.2.1) _⟩
  · unfold setB
    by_cases e : i = j <;> simp [e]
  · have h1 := (H.st.lt hk).1
    have h2 := H.lt.2.2.1
    have e : k = br := e
    omega
  · have := H.lt.2.2.2.2.2
    simpa [World.setCell] using this
theorem Dfs.pushed (H : Dfs w wr Bf b br lo R C N h mark v n s) {w1 : World} {v1 : Value} {y : Nat} (hg : Grew wr w1 v v1) (ho : OwnS w1 lo 3 v1 (n + 1) (fun i => if i < n then .int .i64 (s i : Nat) else .int .i64 (y : Nat))) : Dfs w w1 Bf b br lo R C N h mark v1 (n + 1) (updN s n y) := by
  have hv : ∀ k, v.ownBlock = some k → lo ≤ k := fun k hk => (H.st.lt hk).1
  have hb : Below lo wr w1 := hg.below H.lt.2.2.2.2.2 hv
  refine ⟨⟨(hb.block _ H.lt.1).trans H.bx.box, H.bx.row.of_block (hb.block _ H.lt.2.1)⟩, H.row.of_block (hb.block _ H.lt.2.2.1), ho.congr fun i hi => ?_, ⟨H.lt.1, H.lt.2.1, H.lt.2.2.1, H.lt.2.2.2.1, H.lt.2.2.2.2.1, Nat.le_trans H.lt.2.2.2.2.2 hg.size⟩, H.nb, H.bel.trans (hb.mono H.lt.2.2.2.2.1)⟩
  by_cases e : i < n
  · rw [if_pos e, updN_ne s y (by omega)]
  · rw [if_neg e, show i = n by omega, updN_at]
end

set_option maxHeartbeats 4000000 in
theorem leaves_any (R C N b i : Nat) (h : Nat → Int) (w : World) (hR1 : 1 ≤ R) (hC1 : 1 ≤ C) (hR : R ≤ 1000) (hC : C ≤ 1000) (hh : Hid (∀ i, i < R * C → 0 ≤ h i ∧ h i ≤ 99)) (hi : Hid (i < R * C)) (hN : Hid (N = R * C)) (hrow : Hid (w.rowIs b 3 N (fun i => .int .i64 (h i)))) :
    Calls Try.prog 82 #[.agg #[.int .i64 R, .int .i64 C, .slice (some ⟨b, 0, none⟩) N N], .int .i64 i] w (RetV (.bool (lvB R C h i)) w) := by
  have hN1 : N ≤ 1000000 := by rw [hN.out]; exact Nat.le_trans (Nat.mul_le_mul hR hC) (by decide)
  have hblt : b < w.heap.size := hrow.out.lt
  have hiN : i < N := by rw [hN.out]; exact hi.out
  have HMut : Hid (Mut N (nearL R C)) := by show Mut N _; rw [hN.out]; exact nearL_mut R C
  have HYes : Hid (∀ y, brd R C y = true → Lnk N (nearL R C) (fun x => h x ≤ h i) y i → lvB R C h i = true) := fun y h1 h2 => (lvB_iff hh.out hi.out).2 (esc_lnk.2 ⟨y, h1, by rw [← hN.out]; exact h2⟩)
  have HNo : Hid ((∀ y, Lnk N (nearL R C) (fun x => h x ≤ h i) y i → brd R C y = false) → lvB R C h i = false) := fun hall => by
    cases e : lvB R C h i
    · rfl
    · obtain ⟨y, h1, h2⟩ := esc_lnk.1 ((lvB_iff hh.out hi.out).1 e)
      rw [hall y (by rw [hN.out]; exact h2)] at h1
      cases h1
  have hmk := run_make_row' (P := Try.prog) 78 4 (.bool false) 1 Try.underlying78 Try.infoB rfl .i64 .i64 N (by omega) (by omega)
  have hmc : (madeCells #[Value.bool false] N)[i]? = some (.bool false) := by
    have := (World.rowIs_made w (.bool false) N 4).cell hiN
    unfold World.cell? at this
    rw [heap_alloc_new] at this
    exact this
  have HB := Lib.hid (Boxed.new (R := R) (C := C) hrow.out)
  have x2 := cell_of_blk (i := 2) HB.out.box rfl
  go_enter Try.func82, Try.ntmps82
  go_wp2_with fail
  have D0 : Dfs w (((w.alloc (.cells #[.int .i64 R, .int .i64 C, .slice (some ⟨b, 0, none⟩) N N] 59)).alloc (.cells ((madeCells #[Value.bool false] N).setIfInBounds i (Value.bool true)) 4)).alloc (.cells #[.int .i64 i] 3)) w.heap.size b (w.heap.size + 1) (w.heap.size + 1 + 1) R C N h (setB (fun _ => false) i) (.slice (some ⟨w.heap.size + 1 + 1, 0, none⟩) 1 1) 1 (fun _ => i) := by
    have hsz : ((madeCells #[Value.bool false] N).setIfInBounds i (Value.bool true)).size = N := by simp [madeCells]
    have hr := World.rowIs_alloc (w.alloc (.cells #[.int .i64 R, .int .i64 C, .slice (some ⟨b, 0, none⟩) N N] 59)) ((madeCells #[Value.bool false] N).setIfInBounds i (Value.bool true)) 4 (fun k => .bool (setB (fun _ => false) i k)) (fun k hk => by
      rw [hsz] at hk
      unfold setB
      by_cases e : k = i
      · subst e; simp [madeCells, hk]
      · have e' : ¬ i = k := fun h => e h.symm
        simp [madeCells, hk, e, e', Nat.mod_one])
    rw [hsz] at hr
    have hst := OwnS.one ((w.alloc (.cells #[.int .i64 R, .int .i64 C, .slice (some ⟨b, 0, none⟩) N N] 59)).alloc (.cells ((madeCells #[Value.bool false] N).setIfInBounds i (Value.bool true)) 4)) (w.heap.size + 1 + 1) 3 (.int .i64 i) (fun _ => .int .i64 i) (by simp) rfl
    have hbw := ((below_alloc w (.cells #[.int .i64 R, .int .i64 C, .slice (some ⟨b, 0, none⟩) N N] 59)).alloc (by simp) (.cells ((madeCells #[Value.bool false] N).setIfInBounds i (Value.bool true)) 4)).alloc (by simp <;> omega) (.cells #[.int .i64 i] 3)
    refine ⟨⟨?_, ((HB.out.row.alloc _).alloc _)⟩, ?_, ?_, ⟨by omega, by omega, by omega, by omega, by omega, by simp <;> omega⟩, by omega, hbw⟩
    · rw [Below.heap_alloc _ _ _ (by simp <;> omega), Below.heap_alloc _ _ _ (by simp)]; exact HB.out.box
    · have := hr.alloc (.cells #[.int .i64 i] 3)
      simpa using this
    · simpa using hst
  have HD0 := Lib.hid D0
  have HS0 : Hid (Srch N (nearL R C) (fun x => h x ≤ h i) i (setB (fun _ => false) i) (Held 1 (fun _ => i))) := Srch.new hiN (Int.le_refl _) (fun y => ⟨fun hy => (of_setB hy).elim id (fun e => absurd e (by decide)), fun e => by rw [e]; exact setB_at _ _⟩) (fun y => ⟨fun ⟨_, _, e⟩ => e.symm, fun e => ⟨0, by omega, e.symm⟩⟩)
  clear D0 HB x2 hmc hmk
  generalize World.alloc (World.alloc (World.alloc w _) _) _ = w0 at *
  generalize w.heap.size + 1 + 1 = lo at *
  generalize w.heap.size + 1 = br at *
  go_loopg [6] (2 * (N - cnt (setB (fun _ => false) i) N) + 1) (fun gk v wr => ∃ (mark : Nat → Bool) (n : Nat) (s : Nat → Nat), Hid (Dfs w wr w.heap.size b br lo R C N h mark v n s) ∧ Hid (Srch N (nearL R C) (fun x => h x ≤ h i) i mark (Held n s)) ∧ Hid (∀ y, mark y = true → Held n s y ∨ brd R C y = false) ∧ Hid (gk = 2 * (N - cnt mark N) + n ∧ gk ≤ 2 * N + 1))
  case atStart => exact ⟨_, 1, _, HD0.out, HS0.out, fun y hy => .inl ⟨0, by omega, ((of_setB hy).elim id (fun e => absurd e (by decide))).symm⟩, ⟨rfl, by omega⟩⟩
  case round =>
    clear HD0 HS0
    obtain ⟨mark, n, s, HD, HS, HBr, HGk⟩ := hrel
    obtain ⟨Av, cv, rfl, hcv⟩ := HD.out.st.slice
    cases n with
    | zero =>
      go_wp2_with fail
      go_ret
      refine ⟨ret_bool (HNo.out fun y hl => ?_).symm, HD.out.bel⟩
      rcases HBr.out y ((HS.out.done HMut.out (fun y ⟨k, hk, _⟩ => absurd hk (Nat.not_lt_zero k))).2 hl) with ⟨k, hk, _⟩ | e
      · exact absurd hk (Nat.not_lt_zero k)
      · exact e
    | succ n =>
      have hnN : n + 1 ≤ 2000001 := by have := HGk.out; omega
      obtain ⟨bs, cs', hv', _, _, hcs, _⟩ := HD.out.st.cell (show n < n + 1 by omega)
      injection hv' with hv1 hv2 hv3
      subst hv1 hv3
      have x0 := cell_of_blk (i := 0) HD.out.bx.box rfl
      have x1 := cell_of_blk (i := 1) HD.out.bx.box rfl
      have x2 := cell_of_blk (i := 2) HD.out.bx.box rfl
      have HLx := Lib.hid (HS.out.snd (s n) (HS.out.tod _ ⟨n, by omega, rfl⟩))
      have hxN : s n < N := HLx.out.lt
      have HI : Hid (s n < R * C) := by show s n < R * C; rw [← hN.out]; exact hxN
      go_wp2_with fail
      refine (border_any R C N b (s n) _ hR1 hC1 hR hC HI).mono ?_
      rintro e w1 ⟨rfl, hb1⟩
      by_cases hbr : brd R C (s n) = true
      · rw [hbr]
        go_wp2_with fail
        go_ret
        exact ⟨ret_bool (HYes.out _ hbr HLx.out).symm, HD.out.bel.trans (hb1.mono HD.out.bel.size)⟩
      have hbr' : brd R C (s n) = false := by simpa using hbr
      rw [hbr']
      have HBF := Lib.hid hbr'
      clear hbr hbr'
      have HD1 : Hid (Dfs w w1 w.heap.size b br lo R C N h mark (.slice (some ⟨bs, 0, none⟩) n cv) n s) := by
        have H := HD.out.keep hb1
        exact ⟨H.bx, H.row, H.st.take (by omega), H.lt, H.nb, H.bel⟩
      have HS1 : Hid (SrchAt N (nearL R C) (fun x => h x ≤ h i) i mark (Held n s) (s n) 0) := HS.out.take ⟨n, by omega, rfl⟩ (fun y hy => hy.pop) (fun y hy => hy.of)
      have HBr1 : Hid (∀ y, mark y = true → Held n s y ∨ brd R C y = false) := fun y hy => by
        rcases HBr.out y hy with h | h
        · rcases h.pop with h | h
          · exact .inl h
          · rw [h]; exact .inr HBF.out
        · exact .inr h
      have HGk1 : Hid (2 * (N - cnt mark N) + n + 1 ≤ gk ∧ gk ≤ 2 * N + 1) := by
        have := HGk.out
        exact ⟨by omega, this.2⟩
      have hlow : w.heap.size ≤ w1.heap.size := HD1.out.bel.size
      clear HD HS HBr HGk hcs hcv x0 x1 x2 hb1
      have x0 := cell_of_blk (i := 0) HD1.out.bx.box rfl
      have x1 := cell_of_blk (i := 1) HD1.out.bx.box rfl
      have x2 := cell_of_blk (i := 2) HD1.out.bx.box rfl
      have HMem : Hid (∀ q, q < (nearL R C (s n)).length → (nearL R C (s n)).getD q 0 < N) := fun q hq => by rw [hN.out]; exact nearL_lt HI.out (getD_mem hq)
      have HPass : Hid (∀ (mark : Nat → Bool) (T : Nat → Prop) m, SrchAt N (nearL R C) (fun x => h x ≤ h i) i mark T (s n) m → (h ((nearL R C (s n)).getD m 0) ≤ h i → mark ((nearL R C (s n)).getD m 0) = true) → SrchAt N (nearL R C) (fun x => h x ≤ h i) i mark T (s n) (m + 1)) := fun _ _ _ H hh => H.pass hh
      have HMark : Hid (∀ (mark : Nat → Bool) (T T' : Nat → Prop) m, SrchAt N (nearL R C) (fun x => h x ≤ h i) i mark T (s n) m → m < (nearL R C (s n)).length → h ((nearL R C (s n)).getD m 0) ≤ h i → (∀ y, T' y ↔ T y ∨ y = (nearL R C (s n)).getD m 0) → SrchAt N (nearL R C) (fun x => h x ≤ h i) i (setB mark ((nearL R C (s n)).getD m 0)) T' (s n) (m + 1)) := fun _ _ _ _ H hm ho hT => H.mark HMut.out hm ho hT
      have HEnd : Hid (∀ (mark : Nat → Bool) (T : Nat → Prop), SrchAt N (nearL R C) (fun x => h x ≤ h i) i mark T (s n) (nearL R C (s n)).length → Srch N (nearL R C) (fun x => h x ≤ h i) i mark T) := fun _ _ H => H.end_
      have hl4 := nearL_len R C (s n)
      go_wp2_with fail
      refine (neighbors_any R C N b (s n) _ hC1 hR hC HI.out).mono ?_
      rintro e w2 ⟨v, rfl, hown, hb2⟩
      have HD2 := Lib.hid (HD1.out.keep hb2)
      obtain ⟨Al, cl, rfl⟩ := hown.slice
      have HO := Lib.hid hown
      have HLo : Hid (br < w1.heap.size) := HD1.out.row.lt
      have HNe : Hid (∀ k, (Value.slice Al (nearL R C (s n)).length cl).ownBlock = some k → (Value.slice (some ⟨bs, 0, none⟩) n cv).ownBlock ≠ some k) := fun k hk hk' => by
        have h1 := (hown.s.lt hk).1
        have h2 := (HD1.out.st.lt hk').2
        omega
      clear hown x0 x1 x2 HD1 hb2
      obtain ⟨lo2, hlo2⟩ : ∃ x, x = w1.heap.size := ⟨_, rfl⟩
      rw [← hlo2] at HO HLo
      clear hlo2 hlow
      generalize hll : nearL R C (s n) = ll at *
      have HLL := Lib.hid hll
      clear hll
      generalize s n = x at *
      go_wp2_with fail
      go_loopw [6, 40] (fun v q wi => ∃ (m : Nat) (mark : Nat → Bool) (n : Nat) (s : Nat → Nat), m ≤ ll.length ∧ q = .int .i64 m ∧ Hid (Dfs w wi w.heap.size b br lo R C N h mark v n s) ∧ Hid (OwnL wi lo2 (.slice Al ll.length cl) ll) ∧ Hid (∀ k, (Value.slice Al ll.length cl).ownBlock = some k → v.ownBlock ≠ some k) ∧ Hid (SrchAt N (nearL R C) (fun x => h x ≤ h i) i mark (Held n s) x m) ∧ Hid (∀ y, mark y = true → Held n s y ∨ brd R C y = false) ∧ Hid (2 * (N - cnt mark N) + n + 1 ≤ gk ∧ gk ≤ 2 * N + 1)) (fun _ q _ => ll.length - (intOf q).toNat)
      case atStart => exact ⟨0, mark, n, s, Nat.zero_le _, rfl, HD2.out, HO.out, HNe.out, HS1.out, HBr1.out, HGk1.out⟩
      case round =>
        clear HD2 HO HNe HS1 HBr1 HGk1 hnN hxN
        obtain ⟨m, mark, n, s, hm, rfl, HD, HO, HNe, HS, HBr, HGk⟩ := hrel
        obtain ⟨Av, cv, rfl, hcv⟩ := HD.out.st.slice
        have hn2 : n ≤ 2000001 := by have := HGk.out; omega
        by_cases hlt : m < ll.length
        · obtain ⟨bl, rfl, hce⟩ := HO.out.at_ hlt
          have hjN := HMem.out m hlt
          have x2 := cell_of_blk (i := 2) HD.out.bx.box rfl
          have hcj := HD.out.bx.row.cell hjN
          have hci := HD.out.bx.row.cell hiN
          have hmj := HD.out.row.cell hjN
          have hfj := HD.out.row.frozen (ll.getD m 0)
          have HP1 := Lib.hid (HPass.out mark (Held n s) m HS.out)
          have HM1 := Lib.hid (HMark.out mark (Held n s) (Held (n + 1) (updN s n (ll.getD m 0))) m HS.out hlt)
          generalize ll.getD m 0 = j at *
          obtain ⟨mj, hmj'⟩ : ∃ mj, mj = mark j := ⟨_, rfl⟩
          rw [← hmj'] at hmj HP1
          have HMJ := Lib.hid hmj'
          clear hmj'
          cases mj
          · by_cases hq : h j ≤ h i
            · go_wp2_with fail
              go_quiet (fail)
              have HD2 := Lib.hid ((HD.out.keep (below_drewN (Below.refl _ _) nq)).marked j)
              have HO2 : Hid (OwnL ((wr.drewN nq).setCell ⟨br, j, none⟩ (.bool true)) lo2 (.slice (some ⟨bl, 0, none⟩) ll.length cl) ll) := OwnS.of_block (HO.out.below (below_drewN (Below.refl _ _) nq)).s (fun k hk => Below.heap_setCell _ _ _ _ (fun e => by
                have h1 := (HO.out.s.lt hk).1
                have h2 := HLo.out
                have e : k = br := e
                omega))
              go_upto_region 14 with (fail)
              generalize World.setCell (wr.drewN nq) _ _ = wq at *
              go_wp2_with (at_builtin; refine wpList_app1 rfl (.tmp 65) (.tmp 67) 29 rfl Try.underlying29 Try.infoI rfl rfl HD2.out.st (x := .int .i64 (j : Nat)) rfl rfl (by omega) (by decide) HD2.out.lt.2.2.2.2.2 ?_; intro v' w3 ho hg3; obtain ⟨A3, c3, rfl, _⟩ := ho.slice)
              have HD3 := Lib.hid (HD2.out.pushed hg3 ho)
              have HO3 : Hid (OwnL w3 lo2 (.slice (some ⟨bl, 0, none⟩) ll.length cl) ll) := OwnS.of_block HO2.out.s (fun k hk => hg3.block k (HO2.out.s.lt hk).2 (HNe.out k hk))
              have HNe3 : Hid (∀ k, (Value.slice (some ⟨bl, 0, none⟩) ll.length cl).ownBlock = some k → (Value.slice A3 (n + 1) c3).ownBlock ≠ some k) := fun k hk hk' => by
                rcases hg3.at_ with e | ⟨k', e, hk2⟩
                · exact HNe.out k hk (e.symm.trans hk')
                · rw [e] at hk'
                  injection hk' with hk'
                  have := (HO2.out.s.lt hk).2
                  omega
              have HC : Hid (cnt (setB mark j) N = cnt mark N + 1) := cnt_setB HMJ.out.symm hjN
              have HCl : Hid (cnt (setB mark j) N ≤ N) := cnt_le _ _
              clear ho hg3
              go_wp2_with fail
              go_roundw
              case rel =>
                refine ⟨m + 1, setB mark j, n + 1, updN s n j, by omega, by go_num, HD3.out, HO3.out, HNe3.out, HM1.out hq (fun y => Held.push), fun y hy => ?_, ?_⟩
                · rcases of_setB hy with e | e
                  · exact .inl (Held.push.2 (.inr e))
                  · rcases HBr.out y e with e | e
                    · exact .inl (Held.push.2 (.inl e))
                    · exact .inr e
                · have h1 := HC.out
                  have h2 := HCl.out
                  have h3 := HGk.out
                  exact ⟨by omega, h3.2⟩
              case measure => simp [intOf]; omega
            · go_wp2_with fail
              go_quiet (fail)
              go_wp2_with fail
              go_roundw
              case rel => exact ⟨m + 1, mark, n, s, by omega, by go_num, HD.out.keep (below_drewN (Below.refl _ _) _), HO.out.below (below_drewN (Below.refl _ _) _), HNe.out, HP1.out (fun hh => by omega), HBr.out, HGk.out⟩
              case measure => simp [intOf]; omega
          · go_wp2_with fail
            go_quiet (fail)
            go_wp2_with fail
            go_roundw
            case rel => exact ⟨m + 1, mark, n, s, by omega, by go_num, HD.out.keep (below_drewN (Below.refl _ _) _), HO.out.below (below_drewN (Below.refl _ _) _), HNe.out, HP1.out (fun _ => by trivial), HBr.out, HGk.out⟩
            case measure => simp [intOf]; omega
        · have HM : Hid (m = ll.length) := by show m = ll.length; omega
          go_wp2_with fail
          go_roundg (2 * (N - cnt mark N) + n)
          case measure => have := HGk.out; omega
          case rel => exact ⟨mark, n, s, HD.out, HEnd.out mark _ (by rw [← HM.out]; exact HS.out), HBr.out, ⟨rfl, by have := HGk.out; omega⟩⟩

end Go.Proofs.Ythndabbjkkjkhaa
