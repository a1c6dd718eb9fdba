/- A text cut at a byte: what the reference's function returns. -/
import Derived.Test.YtkkkkgcijkjeoaaDoorFrm
namespace Go.Proofs.YtkkkkgcijkjeoaaDoor
set_option linter.unusedVariables false
set_option linter.unusedSimpArgs false
open Go.RowKit

theorem ext_list (l : List UInt8) (f i : Nat) : (⟨l.toArray⟩ : ByteArray).extract f i = ⟨((l.drop f).take (i - f)).toArray⟩ := by
  apply ByteArray.ext
  rw [ByteArray.data_extract]
  simp [List.extract_eq_take_drop]

theorem drop_split {l : List UInt8} {f i : Nat} (hf : f ≤ i) (hi : i < l.length) : l.drop f = (l.drop f).take (i - f) ++ l[i] :: l.drop (i + 1) := by
  have h1 : (l.drop f).drop (i - f) = l[i] :: l.drop (i + 1) := by
    rw [List.drop_drop, show f + (i - f) = i by omega]
    exact List.drop_eq_getElem_cons hi
  rw [← h1, List.take_append_drop]
theorem take_split {l : List UInt8} {f i : Nat} (hf : f ≤ i) (hi : i < l.length) : ((l.drop f).take (i - f) ++ l[i] :: l.drop (i + 1)).take (i - f) = (l.drop f).take (i - f) := by
  rw [← drop_split hf hi]
theorem take_more {l : List UInt8} {f i : Nat} (hf : f ≤ i) (hi : i < l.length) : (l.drop f).take (i + 1 - f) = (l.drop f).take (i - f) ++ [l[i]] := by
  rw [show i + 1 - f = (i - f) + 1 by omega, List.take_add_one]
  congr 1
  rw [List.getElem?_drop, show f + (i - f) = i by omega]
  simp [hi]

theorem Tryd.infoStr : (Tryd.prog.info? 9).map (fun i => (i.zero, i.size, i.bytes)) = some (some (.string ⟨#[]⟩), 1, 16) := by kernel_rfl
/-- The pieces in a row of the call's own. -/
def OwnT (w : World) (lo : Nat) (v : Value) (ps : List (List UInt8)) : Prop := OwnS w lo 9 v ps.length (fun k => .string ⟨(ps.getD k []).toArray⟩)
def RetCt (ls : List (List UInt8)) (w : World) (e : Ending) (w' : World) : Prop := ∃ v, e = .returned v ∧ OwnT w' w.heap.size v ls ∧ Below w.heap.size w w'
theorem OwnT.s {w : World} {lo : Nat} {v : Value} {ps : List (List UInt8)} (h : OwnT w lo v ps) : OwnS w lo 9 v ps.length (fun k => .string ⟨(ps.getD k []).toArray⟩) := h
theorem OwnT.snoc {w : World} {lo : Nat} {v : Value} {ps : List (List UInt8)} {q : List UInt8} (h : OwnS w lo 9 v (ps.length + 1) (fun i => if i < ps.length then .string ⟨(ps.getD i []).toArray⟩ else .string ⟨q.toArray⟩)) : OwnT w lo v (ps ++ [q]) := by
  unfold OwnT
  rw [List.length_append, List.length_singleton]
  refine h.congr fun i hi => ?_
  by_cases e : i < ps.length
  · rw [if_pos e]; simp [List.getElem?_append_left e]
  · rw [if_neg e, show i = ps.length by omega]; simp

set_option maxHeartbeats 2000000 in
set_option maxRecDepth 100000 in
theorem l1Cut_any (c : UInt8) (l : List UInt8) (w : World) (hl : l.length ≤ 2000000) :
    Calls Tryd.prog 32 #[.string ⟨l.toArray⟩, .int .u8 (c.toNat : Nat)] w (RetCt (cutC c l) w) := by
  have hcl := c.toNat_lt
  obtain ⟨x, hx⟩ : ∃ x : Nat, x = c.toNat := ⟨_, rfl⟩
  rw [← hx] at hcl ⊢
  have HX := Lib.hid hx
  clear hx
  have HO : Hid (OwnT (w.alloc (.cells #[] 9)) w.heap.size (.slice (some ⟨w.heap.size, 0, none⟩) 0 0) []) := OwnS.new w w.heap.size 9 _ (Nat.le_refl _) #[] 0 rfl (by decide)
  have hb0 := below_alloc w (.cells #[] 9)
  go_enter Tryd.func32, Tryd.ntmps32
  go_wp2_with fail
  go_loopw [5, 6, 7] (fun ov fv iv wr => ∃ (i f : Nat) (ps : List (List UInt8)), f ≤ i ∧ i ≤ l.length ∧ iv = .int .i64 i ∧ fv = .int .i64 f ∧ Hid (OwnT wr w.heap.size ov ps) ∧ Hid (ps ++ cutC c (l.drop f) = cutC c l) ∧ Hid (∀ y ∈ (l.drop f).take (i - f), y ≠ c) ∧ Below w.heap.size w wr) (fun _ _ iv _ => l.length - (intOf iv).toNat)
  case atStart => exact ⟨0, 0, [], Nat.le_refl _, Nat.zero_le _, rfl, rfl, HO.out, rfl, by show ∀ y ∈ _, _; simp, hb0⟩
  case round =>
    clear HO hb0
    obtain ⟨i, f, ps, hfi, hil, rfl, rfl, HO, HC, HN, hB⟩ := hrel
    obtain ⟨Ao, co, rfl, hco⟩ := HO.out.s.slice
    have hsz := hB.size
    have hps : ps.length ≤ l.length + 1 := by
      have h1 := congrArg List.length HC.out
      rw [List.length_append] at h1
      have := cutC_num c l
      omega
    by_cases hlt : i < l.length
    · have hsp := drop_split (f := f) hfi hlt
      by_cases hc : l[i] = c
      · have d1 : ((((⟨l.toArray⟩ : ByteArray)[i]'hlt).toNat : Int) == (x : Int)) = true := by show (((l[i]).toNat : Int) == (x : Int)) = true; rw [hc, ← HX.out]; exact beq_self_eq_true _
        have HC4 : Hid (ps ++ [(l.drop f).take (i - f)] ++ cutC c (l.drop (i + 1)) = cutC c l) := by
          show _ = _
          rw [← HC.out, List.append_assoc]
          congr 1
          rw [hc] at hsp
          have h := cut_app (c := c) (l.drop (i + 1)) HN.out
          rw [← hsp] at h
          rw [h]
          rfl
        clear hc hsp HN HC
        go_wp2_with (at_builtin; refine wpList_app1 rfl (.tmp 20) (.tmp 25) 52 rfl Tryd.underlying52 Tryd.infoStr rfl rfl HO.out.s (x := .string ((⟨l.toArray⟩ : ByteArray).extract f i)) rfl rfl (by omega) (by decide) hsz ?_; intro v4 w4 ho hg; obtain ⟨A4, c4, rfl, _⟩ := ho.slice)
        rw [ext_list] at ho
        have HO4 := Lib.hid (OwnT.snoc ho)
        have hB4 := hB.trans (hg.below hsz (fun q hq => (HO.out.s.lt hq).1))
        clear ho hg d1
        go_wp2_with fail
        go_roundw
        case rel => exact ⟨i + 1, i + 1, _, Nat.le_refl _, by omega, by go_num, by go_num, Lib.hid (by simpa using HO4.out), HC4.out, by show ∀ y ∈ _, _; simp, hB4⟩
        case measure => simp [intOf]; omega
      · have d1 : ((((⟨l.toArray⟩ : ByteArray)[i]'hlt).toNat : Int) == (x : Int)) = false := by
          show (((l[i]).toNat : Int) == (x : Int)) = false
          rw [beq_eq_false_iff_ne]
          intro e
          have e : (l[i]).toNat = c.toNat := by rw [← HX.out]; omega
          exact hc (UInt8.toNat_inj.1 e)
        have HN4 : Hid (∀ y ∈ (l.drop f).take (i + 1 - f), y ≠ c) := fun y hy => by
          rw [take_more hfi hlt] at hy
          rcases List.mem_append.1 hy with hy | hy
          · exact HN.out y hy
          · have : y = l[i] := by simpa using hy
            rw [this]; exact hc
        clear hc hsp
        go_wp2_with fail
        go_roundw
        case rel => exact ⟨i + 1, f, ps, by omega, by omega, by go_num, rfl, HO.out, HC.out, HN4.out, hB⟩
        case measure => simp [intOf]; omega
    · have hi : i = l.length := by omega
      have ht : (l.drop f).take (i - f) = l.drop f := List.take_of_length_le (by rw [List.length_drop]; omega)
      have HC4 : Hid (ps ++ [l.drop f] = cutC c l) := by
        have hn := HN.out
        rw [ht] at hn
        have := HC.out
        rw [cut_one hn] at this
        exact this
      have HEx : Hid ((⟨l.toArray⟩ : ByteArray).extract f l.length = ⟨(l.drop f).toArray⟩) := by
        show _ = _
        rw [ext_list, ← hi, ht]
      clear ht
      have hif : f ≤ l.length := by omega
      clear hi
      go_wp2_with (at_builtin; refine wpList_app1 rfl (.tmp 29) (.tmp 33) 52 rfl Tryd.underlying52 Tryd.infoStr rfl rfl HO.out.s (x := .string ((⟨l.toArray⟩ : ByteArray).extract f l.length)) rfl rfl (by omega) (by decide) hsz ?_; intro v4 w4 ho hg; obtain ⟨A4, c4, rfl, _⟩ := ho.slice)
      rw [HEx.out] at ho
      have HO4 := Lib.hid (OwnT.snoc ho)
      have hB4 := hB.trans (hg.below hsz (fun q hq => (HO.out.s.lt hq).1))
      clear ho hg
      rw [HC4.out] at HO4
      go_wp2_with fail
      go_ret
      exact ⟨_, rfl, HO4.out, hB4⟩

end Go.Proofs.YtkkkkgcijkjeoaaDoor
