/- Neighbors of a cell, and heights by index: what the program's and the reference's functions return. -/
import Derived.Test.YtgekjhmjjjkibaaCor
import Derived.Test.YtgekjhmjjjkibaaOwn
import Derived.Test.YtgekjhmjjjkibaaPlC
import Derived.Deep.DeepCutAuto
namespace Go.Proofs.Ytgekjhmjjjkibaa
set_option linter.unusedVariables false
set_option linter.unusedSimpArgs false
open Go.RowKit

/-- A list of numbers in a slice of the call's own. -/
def OwnL (w : World) (lo : Nat) (v : Value) (l : List Nat) : Prop := OwnS w lo 3 v l.length (fun k => .int .i64 ((l.getD k 0 : Nat)))

theorem OwnL.snoc {w : World} {lo : Nat} {v : Value} {l : List Nat} {x : Nat} {y : Int} (hy : y = x) (h : OwnS w lo 3 v (l.length + 1) (fun i => if i < l.length then .int .i64 ((l.getD i 0 : Nat)) else .int .i64 y)) : OwnL w lo v (l ++ [x]) := by
  unfold OwnL
  rw [List.length_append, List.length_singleton]
  refine h.congr fun i hi => ?_
  by_cases e : i < l.length
  · rw [if_pos e]
    simp [List.getElem?_append_left e]
  · rw [if_neg e, hy]
    have : i = l.length := by omega
    subst this
    simp

theorem OwnL.slice {w : World} {lo : Nat} {v : Value} {l : List Nat} (h : OwnL w lo v l) : ∃ A c, v = .slice A l.length c := by
  obtain ⟨A, c, e, _⟩ := OwnS.slice h
  exact ⟨A, c, e⟩

theorem OwnL.at_ {w : World} {lo : Nat} {A : Option Addr} {c : Nat} {l : List Nat} (h : OwnL w lo (.slice A l.length c) l) {k : Nat} (hk : k < l.length) : ∃ b, A = some ⟨b, 0, none⟩ ∧ w.cell? ⟨b, k, none⟩ = some (.int .i64 ((l.getD k 0 : Nat))) := by
  obtain ⟨b, c', e, _, _, hc, _⟩ := OwnS.cell h hk
  injection e with e
  exact ⟨b, e, hc⟩

theorem OwnL.s {w : World} {lo : Nat} {v : Value} {l : List Nat} (h : OwnL w lo v l) : OwnS w lo 3 v l.length (fun k => .int .i64 ((l.getD k 0 : Nat))) := h
theorem OwnL.below {w w' : World} {lo : Nat} {v : Value} {l : List Nat} (h : OwnL w lo v l) (hb : Below w.heap.size w w') : OwnL w' lo v l := OwnS.below h hb

/-- A list of heights of the call's own. -/
def OwnI (w : World) (lo : Nat) (v : Value) (n : Nat) (F : Nat → Int) : Prop := OwnS w lo 3 v n (fun i => .int .i64 (F i))
theorem OwnI.s {w : World} {lo : Nat} {v : Value} {n : Nat} {F : Nat → Int} (h : OwnI w lo v n F) : OwnS w lo 3 v n (fun i => .int .i64 (F i)) := h
theorem OwnI.snoc {w : World} {lo : Nat} {v : Value} {k : Nat} {F : Nat → Int} {x : Int} (h : OwnS w lo 3 v (k + 1) (fun i => if i < k then .int .i64 (F i) else .int .i64 x)) : OwnI w lo v (k + 1) (upd F k x) := by
  refine OwnS.congr h fun i hi => ?_
  by_cases e : i < k
  · rw [if_pos e, upd_ne F x (by omega)]
  · rw [if_neg e, show i = k by omega, upd_at]
theorem OwnI.store {w : World} {lo : Nat} {b c n : Nat} {F : Nat → Int} (h : OwnI w lo (.slice (some ⟨b, 0, none⟩) n c) n F) {k : Nat} (hk : k < n) (x : Int) : OwnI (w.setCell ⟨b, k, none⟩ (.int .i64 x)) lo (.slice (some ⟨b, 0, none⟩) n c) n (upd F k x) := by
  refine OwnS.congr (OwnS.store h rfl hk (.int .i64 x)) fun i _ => ?_
  unfold upd
  by_cases e : i = k <;> simp [e]
theorem OwnI.congr {w : World} {lo : Nat} {v : Value} {n : Nat} {F G : Nat → Int} (h : OwnI w lo v n F) (e : ∀ i, i < n → F i = G i) : OwnI w lo v n G := OwnS.congr h fun i hi => by rw [e i hi]
theorem OwnI.below {w w' : World} {lo : Nat} {v : Value} {n : Nat} {F : Nat → Int} (h : OwnI w lo v n F) (hb : Below w.heap.size w w') : OwnI w' lo v n F := OwnS.below h hb

theorem OwnI.cells {w : World} {lo : Nat} {A : Option Addr} {n c : Nat} {F : Nat → Int} (h : OwnI w lo (.slice A n c) n F) (hn : 0 < n) : ∃ b, A = some ⟨b, 0, none⟩ ∧ lo ≤ b ∧ b < w.heap.size ∧ ∀ k, k < n → w.cell? ⟨b, k, none⟩ = some (.int .i64 (F k)) ∧ w.frozen? ⟨b, k, none⟩ = false := by
  obtain ⟨b, c', cur, e, hlo, hg, hc, _, hk⟩ := OwnS.row h hn
  injection e with e
  exact ⟨b, e, hlo, lt_of_blk hg, fun k hk' => ⟨by simp [World.cell?, hg, hk k hk'], by simp [World.frozen?, hg]⟩⟩

/-- A list of neighbors in new memory. -/
def RetNear (l : List Nat) (w : World) (e : Ending) (w' : World) : Prop := ∃ v, e = .returned v ∧ OwnL w' w.heap.size v l ∧ Below w.heap.size w w'

/-- The lists of neighbors as they grow. -/
def near1 (r i C : Nat) : List Nat := [] ++ if 0 < r then [i - C] else []
def near2 (r c i C : Nat) : List Nat := near1 r i C ++ if c + 1 < C then [i + 1] else []
def near3 (r c i R C : Nat) : List Nat := near2 r c i C ++ if r + 1 < R then [i + C] else []
def near4 (r c i R C : Nat) : List Nat := near3 r c i R C ++ if 0 < c then [i - 1] else []
theorem near4_eq (R C i : Nat) : near4 (i / C) (i % C) i R C = nearL R C i := by unfold near4 near3 near2 near1 nearL; rw [List.nil_append]
theorem near1_len (r i C : Nat) : (near1 r i C).length ≤ 1 := by unfold near1; split <;> simp
theorem near2_len (r c i C : Nat) : (near2 r c i C).length ≤ 2 := by
  have := near1_len r i C
  unfold near2; rw [List.length_append]; split <;> simp <;> omega
theorem near3_len (r c i R C : Nat) : (near3 r c i R C).length ≤ 3 := by
  have := near2_len r c i C
  unfold near3; rw [List.length_append]; split <;> simp <;> omega

set_option maxHeartbeats 4000000 in
set_option maxRecDepth 100000 in
theorem neighbors_any (R C N b i : Nat) (w : World) (hC1 : 1 ≤ C) (hR : R ≤ 1000) (hC : C ≤ 1000) (hi : i < R * C) :
    Calls Try.prog 87 #[.agg #[.int .i64 R, .int .i64 C, .slice (some ⟨b, 0, none⟩) N N], .int .i64 i] w (RetNear (nearL R C i) w) := by
  have hib : i ≤ 1000000 := Nat.le_trans (Nat.le_of_lt hi) (Nat.le_trans (Nat.mul_le_mul hR hC) (by decide))
  rw [← near4_eq]
  have hcC : i % C < C := Nat.mod_lt _ (by omega)
  have hrR : i / C < R := Nat.div_lt_of_lt_mul (by rw [Nat.mul_comm]; exact hi)
  have hci : i % C ≤ i := Nat.mod_le _ _
  have hCi : 0 < i / C → C ≤ i := fun h0 => (Nat.div_pos_iff.1 h0).2
  have e1 : (i : Int) / (C : Int) = ((i / C : Nat) : Int) := by rw [Int.natCast_ediv]
  have e2 : (i : Int) % (C : Int) = ((i % C : Nat) : Int) := by rw [Int.natCast_emod]
  have e3 : Int.tmod (i : Int) (C : Int) = ((i % C : Nat) : Int) := (Int.ofNat_tmod i C).symm
  generalize i / C = r at *
  generalize i % C = c at *
  clear hi
  have HCi := Lib.hid hCi
  clear hCi
  have hmk : ∀ w, (Instr.makeSlice 29 (.int .i64 0) (.int .i64 4)).run Try.prog w = .ok (.slice (some ⟨w.heap.size, 0, none⟩) 0 4) (w.alloc (.cells #[.int .i64 0, .int .i64 0, .int .i64 0, .int .i64 0] 3)) := fun _ => by kernel_rfl
  have HY : Hid (∀ w2, Below (w.heap.size + 1) (w.alloc (.cells #[.int .i64 R, .int .i64 C, .slice (some ⟨b, 0, none⟩) N N] 49)) w2 → w2.cell? ⟨w.heap.size, 0, none⟩ = some (.int .i64 R) ∧ w2.cell? ⟨w.heap.size, 1, none⟩ = some (.int .i64 C)) :=
    fun w2 hb2 => ⟨(hb2.cell (by simp)).trans (box_cell0 _ _ _ _ _), (hb2.cell (by simp)).trans (box_cell1 _ _ _ _ _)⟩
  go_enter Try.func87, Try.ntmps87
  go_wp2_with fail
  go_quiet (fail)
  go_upto_if 18 with (fail)
  generalize hW : World.drewN _ nq = W0
  have hW0 : W0.heap.size = w.heap.size + 1 := by rw [← hW]; simp
  have hBW : Below w.heap.size w W0 := by rw [← hW]; exact below_drewN (below_alloc _ _) _
  have HYW : Hid (∀ w2, Below W0.heap.size W0 w2 → w2.cell? ⟨w.heap.size, 0, none⟩ = some (.int .i64 R) ∧ w2.cell? ⟨w.heap.size, 1, none⟩ = some (.int .i64 C)) := fun w2 hb2 => HY.out w2 (by
    rw [← hW] at hb2
    exact ⟨hb2.os, hb2.tape, hb2.output, hb2.size, fun k hk => hb2.block k (by simpa using hk)⟩)
  clear hW HY hmk
  have HO : Hid (OwnL (W0.alloc (.cells #[.int .i64 0, .int .i64 0, .int .i64 0, .int .i64 0] 3)) W0.heap.size (.slice (some ⟨w.heap.size + 1, 0, none⟩) 0 4) []) := by
    rw [← hW0]
    exact OwnS.new W0 W0.heap.size 3 _ (Nat.le_refl _) _ 4 rfl (by decide)
  have hb : Below W0.heap.size W0 (W0.alloc (.cells #[.int .i64 0, .int .i64 0, .int .i64 0, .int .i64 0] 3)) := below_alloc _ _
  have HLen : Hid (([] : List Nat).length ≤ 0) := Nat.le_refl _
  have HW0 := Lib.hid hW0
  clear hW0
  obtain ⟨y0, y1⟩ := HYW.out _ hb
  generalize W0.alloc _ = W1 at *
  go_upto_if 18 with (fail)
  go_cut [7] (fun v wx => OwnL wx W0.heap.size v (near1 r i C) ∧ Below W0.heap.size W0 wx)
  case first =>
    by_cases hq : 0 < r
    · have hci2 := HCi.out hq
      go_wp2_with (at_builtin; refine wpList_app1 rfl (.tmp 19) (.tmp 24) 29 rfl Try.underlying29 Try.infoI rfl rfl HO.out.s (x := .int .i64 ((i : Int) - (C : Int))) rfl rfl (by have := HLen.out; omega) (by decide) hb.size ?_; intro v' w' ho hg)
      go_meet
      case rel =>
        have e : near1 r i C = [] ++ [i - C] := by show _ ++ _ = _; rw [if_pos hq]
        rw [e]
        exact ⟨OwnL.snoc (by omega) ho, hb.trans (hg.below hb.size (fun j hj => (HO.out.s.lt hj).1))⟩
    · skip
      go_wp2_with fail
      go_meet
      case rel =>
        have e : near1 r i C = [] := by show _ ++ _ = _; rw [if_neg hq]; exact List.append_nil _
        rw [e]
        exact ⟨HO.out, hb⟩
  case rest =>
    clear HO hb HLen y0 y1
    obtain ⟨hown, hb⟩ := hcut
    obtain ⟨Av, cv, rfl⟩ := hown.slice
    have HO := Lib.hid hown
    clear hown
    have HLen := Lib.hid (near1_len r i C)
    obtain ⟨y0, y1⟩ := HYW.out _ hb
    go_upto_if 30 with (fail)
    go_cut [7] (fun v wx => OwnL wx W0.heap.size v (near2 r c i C) ∧ Below W0.heap.size W0 wx)
    case first =>
      by_cases hq : c + 1 < C
      · skip
        go_wp2_with (at_builtin; refine wpList_app1 rfl (.tmp 31) (.tmp 34) 29 rfl Try.underlying29 Try.infoI rfl rfl HO.out.s (x := .int .i64 ((i : Int) + 1)) rfl rfl (by have := HLen.out; omega) (by decide) hb.size ?_; intro v' w' ho hg)
        go_meet
        case rel =>
          have e : near2 r c i C = near1 r i C ++ [i + 1] := by show _ ++ _ = _; rw [if_pos hq]
          rw [e]
          exact ⟨OwnL.snoc (by omega) ho, hb.trans (hg.below hb.size (fun j hj => (HO.out.s.lt hj).1))⟩
      · skip
        go_wp2_with fail
        go_meet
        case rel =>
          have e : near2 r c i C = near1 r i C := by show _ ++ _ = _; rw [if_neg hq]; exact List.append_nil _
          rw [e]
          exact ⟨HO.out, hb⟩
    case rest =>
      clear HO hb HLen y0 y1
      obtain ⟨hown, hb⟩ := hcut
      obtain ⟨Av, cv, rfl⟩ := hown.slice
      have HO := Lib.hid hown
      clear hown
      have HLen := Lib.hid (near2_len r c i C)
      obtain ⟨y0, y1⟩ := HYW.out _ hb
      go_upto_if 40 with (fail)
      go_cut [7] (fun v wx => OwnL wx W0.heap.size v (near3 r c i R C) ∧ Below W0.heap.size W0 wx)
      case first =>
        by_cases hq : r + 1 < R
        · skip
          go_wp2_with (at_builtin; refine wpList_app1 rfl (.tmp 41) (.tmp 46) 29 rfl Try.underlying29 Try.infoI rfl rfl HO.out.s (x := .int .i64 ((i : Int) + (C : Int))) rfl rfl (by have := HLen.out; omega) (by decide) hb.size ?_; intro v' w' ho hg)
          go_meet
          case rel =>
            have e : near3 r c i R C = near2 r c i C ++ [i + C] := by show _ ++ _ = _; rw [if_pos hq]
            rw [e]
            exact ⟨OwnL.snoc (by omega) ho, hb.trans (hg.below hb.size (fun j hj => (HO.out.s.lt hj).1))⟩
        · skip
          go_wp2_with fail
          go_meet
          case rel =>
            have e : near3 r c i R C = near2 r c i C := by show _ ++ _ = _; rw [if_neg hq]; exact List.append_nil _
            rw [e]
            exact ⟨HO.out, hb⟩
      case rest =>
        clear HO hb HLen y0 y1
        obtain ⟨hown, hb⟩ := hcut
        obtain ⟨Av, cv, rfl⟩ := hown.slice
        have HO := Lib.hid hown
        clear hown
        have HLen := Lib.hid (near3_len r c i R C)
        obtain ⟨y0, y1⟩ := HYW.out _ hb
        go_upto_if 49 with (fail)
        go_cut [7] (fun v wx => OwnL wx W0.heap.size v (near4 r c i R C) ∧ Below W0.heap.size W0 wx)
        case first =>
          by_cases hq : 0 < c
          · skip
            go_wp2_with (at_builtin; refine wpList_app1 rfl (.tmp 50) (.tmp 53) 29 rfl Try.underlying29 Try.infoI rfl rfl HO.out.s (x := .int .i64 ((i : Int) - 1)) rfl rfl (by have := HLen.out; omega) (by decide) hb.size ?_; intro v' w' ho hg)
            go_meet
            case rel =>
              have e : near4 r c i R C = near3 r c i R C ++ [i - 1] := by show _ ++ _ = _; rw [if_pos hq]
              rw [e]
              exact ⟨OwnL.snoc (by omega) ho, hb.trans (hg.below hb.size (fun j hj => (HO.out.s.lt hj).1))⟩
          · skip
            go_wp2_with fail
            go_meet
            case rel =>
              have e : near4 r c i R C = near3 r c i R C := by show _ ++ _ = _; rw [if_neg hq]; exact List.append_nil _
              rw [e]
              exact ⟨HO.out, hb⟩
        case rest =>
          clear HO hb HLen y0 y1
          obtain ⟨hown, hb⟩ := hcut
          obtain ⟨Av, cv, rfl⟩ := hown.slice
          have HO := Lib.hid hown
          clear hown
          go_wp2_with fail
          go_ret
          exact ⟨_, rfl, OwnS.mono HO.out (by rw [HW0.out]; omega), hBW.trans (hb.mono (by rw [HW0.out]; omega))⟩

set_option maxHeartbeats 4000000 in
set_option maxRecDepth 100000 in
theorem l2Near_any (A : Option Addr) (n cp i : Nat) (L : Nat → Nat) (g : Nat → Nat → Int) (w : World) (hg : GridF w A n L g) (hn1 : 1 ≤ n) (hn2 : n ≤ 1000) (hl1 : 1 ≤ L 0) (hl2 : L 0 ≤ 1000) (hi : i < n * L 0) :
    Calls Try.prog 86 #[.slice A n cp, .int .i64 i] w (RetNear (nearL n (L 0) i) w) := by
  obtain ⟨B, o, A0, c0, rfl, hc0, _, hr0⟩ := hg 0 (by omega)
  rw [Nat.add_zero] at hc0
  have hBl : B < w.heap.size := World.block_lt_of_cell? w _ hc0
  clear hr0 hg
  generalize L 0 = C at *
  have hib : i ≤ 1000000 := Nat.le_trans (Nat.le_of_lt hi) (Nat.le_trans (Nat.mul_le_mul hn2 hl2) (by decide))
  rw [← near4_eq]
  have hcC : i % C < C := Nat.mod_lt _ (by omega)
  have hci : i % C ≤ i := Nat.mod_le _ _
  have HCi : Hid (0 < i / C ↔ C ≤ i) := by
    show 0 < i / C ↔ C ≤ i
    rw [Nat.div_pos_iff]; omega
  have HRn : Hid (i / C + 1 < n ↔ (i : Int) < (C : Int) * ((n : Int) - 1)) := by
    show i / C + 1 < n ↔ _
    rw [show i / C + 1 < n ↔ i / C < n - 1 by omega, Nat.div_lt_iff_lt_mul (by omega), Nat.mul_comm, ← Int.ofNat_lt, Int.natCast_mul, Int.natCast_sub hn1]
    rfl
  have hm0 : (0 : Int) ≤ (C : Int) * ((n : Int) - 1) := Int.mul_nonneg (by omega) (by omega)
  have hm1 : (C : Int) * ((n : Int) - 1) ≤ 1000000 := by
    have := Nat.mul_le_mul hl2 (by omega : n - 1 ≤ 1000)
    rw [← Int.ofNat_le, Int.natCast_mul, Int.natCast_sub hn1] at this
    exact Int.le_trans this (by decide)
  have e2 : (i : Int) % (C : Int) = ((i % C : Nat) : Int) := by rw [Int.natCast_emod]
  have e3 : Int.tmod (i : Int) (C : Int) = ((i % C : Nat) : Int) := (Int.ofNat_tmod i C).symm
  generalize i / C = r at *
  generalize i % C = c at *
  clear hi
  go_enter Try.func86, Try.ntmps86
  go_upto_if 14 with (fail)
  have HO : Hid (OwnL (w.alloc (.cells #[] 3)) w.heap.size (.slice (some ⟨w.heap.size, 0, none⟩) 0 0) []) := OwnS.new w w.heap.size 3 _ (Nat.le_refl _) _ 0 rfl (by decide)
  have hb : Below w.heap.size w (w.alloc (.cells #[] 3)) := below_alloc _ _
  have HLen : Hid (([] : List Nat).length ≤ 0) := Nat.le_refl _
  generalize w.alloc _ = W1 at *
  clear hc0 hBl
  go_upto_if 14 with (fail)
  go_cut [5] (fun v wx => OwnL wx w.heap.size v (near1 r i C) ∧ Below w.heap.size w wx)
  case first =>
    by_cases hq : 0 < r
    · have hd := HCi.out.1 hq
      go_wp2_with (at_builtin; refine wpList_app1 rfl (.tmp 15) (.tmp 19) 29 rfl Try.underlying29 Try.infoI rfl rfl HO.out.s (x := .int .i64 ((i : Int) - (C : Int))) rfl rfl (by have := HLen.out; omega) (by decide) hb.size ?_; intro v' w' ho hg)
      go_meet
      case rel =>
        have e : near1 r i C = [] ++ [i - C] := by show _ ++ _ = _; rw [if_pos hq]
        rw [e]
        exact ⟨OwnL.snoc (by omega) ho, hb.trans (hg.below hb.size (fun j hj => (HO.out.s.lt hj).1))⟩
    · have hd := Nat.not_le.1 (mt HCi.out.2 hq)
      go_wp2_with fail
      go_meet
      case rel =>
        have e : near1 r i C = [] := by show _ ++ _ = _; rw [if_neg hq]; exact List.append_nil _
        rw [e]
        exact ⟨HO.out, hb⟩
  case rest =>
    clear HO hb HLen 
    obtain ⟨hown, hb⟩ := hcut
    obtain ⟨Av, cv, rfl⟩ := hown.slice
    have HO := Lib.hid hown
    clear hown
    have HLen := Lib.hid (near1_len r i C)
    go_upto_if 26 with (fail)
    go_cut [5] (fun v wx => OwnL wx w.heap.size v (near2 r c i C) ∧ Below w.heap.size w wx)
    case first =>
      by_cases hq : c + 1 < C
      · have hd : (c : Int) < (C : Int) - 1 := by omega
        go_wp2_with (at_builtin; refine wpList_app1 rfl (.tmp 27) (.tmp 30) 29 rfl Try.underlying29 Try.infoI rfl rfl HO.out.s (x := .int .i64 ((i : Int) + 1)) rfl rfl (by have := HLen.out; omega) (by decide) hb.size ?_; intro v' w' ho hg)
        go_meet
        case rel =>
          have e : near2 r c i C = near1 r i C ++ [i + 1] := by show _ ++ _ = _; rw [if_pos hq]
          rw [e]
          exact ⟨OwnL.snoc (by omega) ho, hb.trans (hg.below hb.size (fun j hj => (HO.out.s.lt hj).1))⟩
      · have hd : ¬ (c : Int) < (C : Int) - 1 := by omega
        go_wp2_with fail
        go_meet
        case rel =>
          have e : near2 r c i C = near1 r i C := by show _ ++ _ = _; rw [if_neg hq]; exact List.append_nil _
          rw [e]
          exact ⟨HO.out, hb⟩
    case rest =>
      clear HO hb HLen 
      obtain ⟨hown, hb⟩ := hcut
      obtain ⟨Av, cv, rfl⟩ := hown.slice
      have HO := Lib.hid hown
      clear hown
      have HLen := Lib.hid (near2_len r c i C)
      go_upto_if 38 with (fail)
      go_cut [5] (fun v wx => OwnL wx w.heap.size v (near3 r c i n C) ∧ Below w.heap.size w wx)
      case first =>
        by_cases hq : r + 1 < n
        · have hd := HRn.out.1 hq
          go_wp2_with (at_builtin; refine wpList_app1 rfl (.tmp 39) (.tmp 43) 29 rfl Try.underlying29 Try.infoI rfl rfl HO.out.s (x := .int .i64 ((i : Int) + (C : Int))) rfl rfl (by have := HLen.out; omega) (by decide) hb.size ?_; intro v' w' ho hg)
          go_meet
          case rel =>
            have e : near3 r c i n C = near2 r c i C ++ [i + C] := by show _ ++ _ = _; rw [if_pos hq]
            rw [e]
            exact ⟨OwnL.snoc (by omega) ho, hb.trans (hg.below hb.size (fun j hj => (HO.out.s.lt hj).1))⟩
        · have hd := mt HRn.out.2 hq
          go_wp2_with fail
          go_meet
          case rel =>
            have e : near3 r c i n C = near2 r c i C := by show _ ++ _ = _; rw [if_neg hq]; exact List.append_nil _
            rw [e]
            exact ⟨HO.out, hb⟩
      case rest =>
        clear HO hb HLen 
        obtain ⟨hown, hb⟩ := hcut
        obtain ⟨Av, cv, rfl⟩ := hown.slice
        have HO := Lib.hid hown
        clear hown
        have HLen := Lib.hid (near3_len r c i n C)
        go_upto_if 48 with (fail)
        go_cut [5] (fun v wx => OwnL wx w.heap.size v (near4 r c i n C) ∧ Below w.heap.size w wx)
        case first =>
          by_cases hq : 0 < c
          · skip
            go_wp2_with (at_builtin; refine wpList_app1 rfl (.tmp 49) (.tmp 52) 29 rfl Try.underlying29 Try.infoI rfl rfl HO.out.s (x := .int .i64 ((i : Int) - 1)) rfl rfl (by have := HLen.out; omega) (by decide) hb.size ?_; intro v' w' ho hg)
            go_meet
            case rel =>
              have e : near4 r c i n C = near3 r c i n C ++ [i - 1] := by show _ ++ _ = _; rw [if_pos hq]
              rw [e]
              exact ⟨OwnL.snoc (by omega) ho, hb.trans (hg.below hb.size (fun j hj => (HO.out.s.lt hj).1))⟩
          · skip
            go_wp2_with fail
            go_meet
            case rel =>
              have e : near4 r c i n C = near3 r c i n C := by show _ ++ _ = _; rw [if_neg hq]; exact List.append_nil _
              rw [e]
              exact ⟨HO.out, hb⟩
        case rest =>
          clear HO hb HLen 
          obtain ⟨hown, hb⟩ := hcut
          obtain ⟨Av, cv, rfl⟩ := hown.slice
          have HO := Lib.hid hown
          clear hown
          go_wp2_with fail
          go_ret
          exact ⟨_, rfl, HO.out, hb⟩

set_option maxHeartbeats 4000000 in
set_option maxRecDepth 100000 in
theorem nearOf_any (A : Option Addr) (n cp i : Nat) (L : Nat → Nat) (g : Nat → Nat → Int) (w : World) (hg : GridF w A n L g) (hn1 : 1 ≤ n) (hn2 : n ≤ 1000) (hl1 : 1 ≤ L 0) (hl2 : L 0 ≤ 1000) (hi : i < n * L 0) :
    Calls Try.prog 40 #[.slice A n cp, .int .i64 i] w (RetNear (nearL n (L 0) i) w) := by
  obtain ⟨B, o, A0, c0, rfl, hc0, _, hr0⟩ := hg 0 (by omega)
  rw [Nat.add_zero] at hc0
  have hBl : B < w.heap.size := World.block_lt_of_cell? w _ hc0
  clear hr0 hg
  generalize L 0 = C at *
  have hib : i ≤ 1000000 := Nat.le_trans (Nat.le_of_lt hi) (Nat.le_trans (Nat.mul_le_mul hn2 hl2) (by decide))
  rw [← near4_eq]
  have hcC : i % C < C := Nat.mod_lt _ (by omega)
  have hci : i % C ≤ i := Nat.mod_le _ _
  have HCi : Hid (0 < i / C ↔ C ≤ i) := by
    show 0 < i / C ↔ C ≤ i
    rw [Nat.div_pos_iff]; omega
  have HRn : Hid (i / C + 1 < n ↔ (i : Int) < (C : Int) * ((n : Int) - 1)) := by
    show i / C + 1 < n ↔ _
    rw [show i / C + 1 < n ↔ i / C < n - 1 by omega, Nat.div_lt_iff_lt_mul (by omega), Nat.mul_comm, ← Int.ofNat_lt, Int.natCast_mul, Int.natCast_sub hn1]
    rfl
  have hm0 : (0 : Int) ≤ (C : Int) * ((n : Int) - 1) := Int.mul_nonneg (by omega) (by omega)
  have hm1 : (C : Int) * ((n : Int) - 1) ≤ 1000000 := by
    have := Nat.mul_le_mul hl2 (by omega : n - 1 ≤ 1000)
    rw [← Int.ofNat_le, Int.natCast_mul, Int.natCast_sub hn1] at this
    exact Int.le_trans this (by decide)
  have e2 : (i : Int) % (C : Int) = ((i % C : Nat) : Int) := by rw [Int.natCast_emod]
  have e3 : Int.tmod (i : Int) (C : Int) = ((i % C : Nat) : Int) := (Int.ofNat_tmod i C).symm
  generalize i / C = r at *
  generalize i % C = c at *
  clear hi
  go_enter Try.func40, Try.ntmps40
  go_upto_if 14 with (fail)
  have HO : Hid (OwnL (w.alloc (.cells #[] 3)) w.heap.size (.slice (some ⟨w.heap.size, 0, none⟩) 0 0) []) := OwnS.new w w.heap.size 3 _ (Nat.le_refl _) _ 0 rfl (by decide)
  have hb : Below w.heap.size w (w.alloc (.cells #[] 3)) := below_alloc _ _
  have HLen : Hid (([] : List Nat).length ≤ 0) := Nat.le_refl _
  generalize w.alloc _ = W1 at *
  clear hc0 hBl
  go_upto_if 14 with (fail)
  go_cut [5] (fun v wx => OwnL wx w.heap.size v (near1 r i C) ∧ Below w.heap.size w wx)
  case first =>
    by_cases hq : 0 < r
    · have hd := HCi.out.1 hq
      go_wp2_with (at_builtin; refine wpList_app1 rfl (.tmp 15) (.tmp 19) 29 rfl Try.underlying29 Try.infoI rfl rfl HO.out.s (x := .int .i64 ((i : Int) - (C : Int))) rfl rfl (by have := HLen.out; omega) (by decide) hb.size ?_; intro v' w' ho hg)
      go_meet
      case rel =>
        have e : near1 r i C = [] ++ [i - C] := by show _ ++ _ = _; rw [if_pos hq]
        rw [e]
        exact ⟨OwnL.snoc (by omega) ho, hb.trans (hg.below hb.size (fun j hj => (HO.out.s.lt hj).1))⟩
    · have hd := Nat.not_le.1 (mt HCi.out.2 hq)
      go_wp2_with fail
      go_meet
      case rel =>
        have e : near1 r i C = [] := by show _ ++ _ = _; rw [if_neg hq]; exact List.append_nil _
        rw [e]
        exact ⟨HO.out, hb⟩
  case rest =>
    clear HO hb HLen 
    obtain ⟨hown, hb⟩ := hcut
    obtain ⟨Av, cv, rfl⟩ := hown.slice
    have HO := Lib.hid hown
    clear hown
    have HLen := Lib.hid (near1_len r i C)
    go_upto_if 26 with (fail)
    go_cut [5] (fun v wx => OwnL wx w.heap.size v (near2 r c i C) ∧ Below w.heap.size w wx)
    case first =>
      by_cases hq : c + 1 < C
      · have hd : (c : Int) < (C : Int) - 1 := by omega
        go_wp2_with (at_builtin; refine wpList_app1 rfl (.tmp 27) (.tmp 30) 29 rfl Try.underlying29 Try.infoI rfl rfl HO.out.s (x := .int .i64 ((i : Int) + 1)) rfl rfl (by have := HLen.out; omega) (by decide) hb.size ?_; intro v' w' ho hg)
        go_meet
        case rel =>
          have e : near2 r c i C = near1 r i C ++ [i + 1] := by show _ ++ _ = _; rw [if_pos hq]
          rw [e]
          exact ⟨OwnL.snoc (by omega) ho, hb.trans (hg.below hb.size (fun j hj => (HO.out.s.lt hj).1))⟩
      · have hd : ¬ (c : Int) < (C : Int) - 1 := by omega
        go_wp2_with fail
        go_meet
        case rel =>
          have e : near2 r c i C = near1 r i C := by show _ ++ _ = _; rw [if_neg hq]; exact List.append_nil _
          rw [e]
          exact ⟨HO.out, hb⟩
    case rest =>
      clear HO hb HLen 
      obtain ⟨hown, hb⟩ := hcut
      obtain ⟨Av, cv, rfl⟩ := hown.slice
      have HO := Lib.hid hown
      clear hown
      have HLen := Lib.hid (near2_len r c i C)
      go_upto_if 38 with (fail)
      go_cut [5] (fun v wx => OwnL wx w.heap.size v (near3 r c i n C) ∧ Below w.heap.size w wx)
      case first =>
        by_cases hq : r + 1 < n
        · have hd := HRn.out.1 hq
          go_wp2_with (at_builtin; refine wpList_app1 rfl (.tmp 39) (.tmp 43) 29 rfl Try.underlying29 Try.infoI rfl rfl HO.out.s (x := .int .i64 ((i : Int) + (C : Int))) rfl rfl (by have := HLen.out; omega) (by decide) hb.size ?_; intro v' w' ho hg)
          go_meet
          case rel =>
            have e : near3 r c i n C = near2 r c i C ++ [i + C] := by show _ ++ _ = _; rw [if_pos hq]
            rw [e]
            exact ⟨OwnL.snoc (by omega) ho, hb.trans (hg.below hb.size (fun j hj => (HO.out.s.lt hj).1))⟩
        · have hd := mt HRn.out.2 hq
          go_wp2_with fail
          go_meet
          case rel =>
            have e : near3 r c i n C = near2 r c i C := by show _ ++ _ = _; rw [if_neg hq]; exact List.append_nil _
            rw [e]
            exact ⟨HO.out, hb⟩
      case rest =>
        clear HO hb HLen 
        obtain ⟨hown, hb⟩ := hcut
        obtain ⟨Av, cv, rfl⟩ := hown.slice
        have HO := Lib.hid hown
        clear hown
        have HLen := Lib.hid (near3_len r c i n C)
        go_upto_if 48 with (fail)
        go_cut [5] (fun v wx => OwnL wx w.heap.size v (near4 r c i n C) ∧ Below w.heap.size w wx)
        case first =>
          by_cases hq : 0 < c
          · skip
            go_wp2_with (at_builtin; refine wpList_app1 rfl (.tmp 49) (.tmp 52) 29 rfl Try.underlying29 Try.infoI rfl rfl HO.out.s (x := .int .i64 ((i : Int) - 1)) rfl rfl (by have := HLen.out; omega) (by decide) hb.size ?_; intro v' w' ho hg)
            go_meet
            case rel =>
              have e : near4 r c i n C = near3 r c i n C ++ [i - 1] := by show _ ++ _ = _; rw [if_pos hq]
              rw [e]
              exact ⟨OwnL.snoc (by omega) ho, hb.trans (hg.below hb.size (fun j hj => (HO.out.s.lt hj).1))⟩
          · skip
            go_wp2_with fail
            go_meet
            case rel =>
              have e : near4 r c i n C = near3 r c i n C := by show _ ++ _ = _; rw [if_neg hq]; exact List.append_nil _
              rw [e]
              exact ⟨HO.out, hb⟩
        case rest =>
          clear HO hb HLen 
          obtain ⟨hown, hb⟩ := hcut
          obtain ⟨Av, cv, rfl⟩ := hown.slice
          have HO := Lib.hid hown
          clear hown
          go_wp2_with fail
          go_ret
          exact ⟨_, rfl, HO.out, hb⟩

end Go.Proofs.Ytgekjhmjjjkibaa
