/- Towards InputBack: what is shown as input is read back as it was, for every entry and every text; no condition. Part 4 of 28. -/
import Derived.Test.YtckalplhaggaoaaGreatDoorX02
import Derived.Laws.Cells
import Derived.Test.YtckalplhaggaoaaGreatDoorX03
set_option linter.unusedVariables false
set_option linter.unusedSimpArgs false
namespace Go.Proofs.YtckalplhaggaoaaGreatDoor
open Go.RowKit

set_option maxHeartbeats 1600000 in
set_option maxRecDepth 100000 in
theorem tree_Depth (N : Nat) : ∀ (n : GNode) (A : Option Addr) (k c : Nat) (Z : Nat → Prop) (w : World), nsz n ≤ N → depthN n ≤ 4000000000000000000 → RdN Z w n (.slice A k c) →
    Calls Tryz.prog 45 #[nodeV n (.slice A k c)] w fun e w' => e = .returned (.int .i64 (depthN n)) ∧ Bel w w' := by
  induction N with
  | zero => intro n A k c Z w hN; exfalso; have := nsz_pos n; omega
  | succ N ih =>
    intro n A k c Z w hN hd hr
    have HI := Lib.hid ih
    clear ih
    obtain ⟨hk, hk2, -, g, o, hpos, hkid⟩ := hr.kid
    subst hk
    by_cases hp : 0 < n.kids.length
    case neg =>
      have h0 : n.kids.length = 0 := by omega
      have hv : Hid (depthN n = 1) := by
        show _ = _
        rw [depthN_eq, List.eq_nil_of_length_eq_zero h0, depthL]; rfl
      clear hkid hpos hr hd hN hk2 hp
      rw [h0]
      unfold nodeV
      go_enter Tryz.func45, Tryz.ntmps45
      go_wp2
      refine wp_loop_rounds 1 ?_
      rw [rounds_succ]
      go_wp2
      go_ret
      exact ⟨ret_int hv.out.symm, by (repeat (first | exact Below.refl _ _ | with_reducible assumption | refine bel_ext ?_ _ _ | refine bel_alloc ?_ _ | refine bel_drew ?_ | refine bel_drewN ?_ _ | refine bel_set ?_ (by simp; try omega) _))⟩
    obtain ⟨rfl, hZ, hg⟩ := hpos hp
    have Hkid := Lib.hid hkid
    have Hd := Lib.hid hd
    have HN := Lib.hid hN
    have h00 : Hid (depthL (n.kids.take 0) 0 = 0) := by show _ = _; rw [List.take_zero, depthL]
    clear hkid hpos hr hd hN
    unfold nodeV
    go_enter Tryz.func45, Tryz.ntmps45
    go_wp2
    generalize hW : w.alloc _ = W
    have hb0 : Bel w W := by rw [← hW]; exact bel1 _ _
    clear hW
    go_loopw [3, 9] (fun m t wr => ∃ i : Nat, i ≤ n.kids.length ∧ t = .int .i64 i ∧ m = .int .i64 (depthL (n.kids.take i) 0) ∧ Bel w wr) (fun _ t _ => n.kids.length - (intOf t).toNat)
    case atStart => exact ⟨0, Nat.zero_le _, rfl, by rw [h00.out], hb0⟩
    case round =>
      obtain ⟨i, hi, rfl, rfl, hb⟩ := hrel
      by_cases hlt : i < n.kids.length
      · obtain ⟨A', c', hs1, hs2⟩ := Hkid.out i hlt
        have HC := Lib.hid (fun w1 (b1 : Bel w w1) => HI.out n.kids[i] A' n.kids[i].kids.length c' Z w1 (by have := nsz_kid n i hlt; have := HN.out; omega) (by have := depthN_kid n i hlt; have := Hd.out; omega) (hs1.bel b1))
        have hd1 := depthN_kid n i hlt
        have hd2 := Hd.out
        have hst := Lib.hid (depthL_succ n.kids i hlt)
        have hc := hs2.bel hb hg
        clear hs1 hs2
        generalize depthL (n.kids.take i) 0 = M at *
        generalize depthN n.kids[i] = D at *
        unfold nodeAt at hc
        obtain ⟨q0, q1, q2, q3, q4, q5, q6, q7, q8, q9, q10, q11, q12⟩ := hc
        generalize n.kids[i] = kd at *
        have hlen : (i : Int) < n.kids.length := by omega
        go_wp2_with (go_at_call 45; refine (HC.out _ (by (repeat (first | exact Below.refl _ _ | with_reducible assumption | refine bel_ext ?_ _ _ | refine bel_alloc ?_ _ | refine bel_drew ?_ | refine bel_drewN ?_ _ | refine bel_set ?_ (by simp; try omega) _)))).mono ?_; rintro e' w' ⟨rfl, hb'⟩; obtain ⟨d', o', rfl⟩ := hb'.ext; clear hb')
        go_roundw
        case rel => exact ⟨i + 1, by omega, by go_num, by rw [hst.out]; refine congrArg _ ?_; split <;> omega, by (repeat (first | exact Below.refl _ _ | with_reducible assumption | refine bel_ext ?_ _ _ | refine bel_alloc ?_ _ | refine bel_drew ?_ | refine bel_drewN ?_ _ | refine bel_set ?_ (by simp; try omega) _))⟩
        case measure => simp [intOf]; omega
      · have hd1 := Hd.out
        have hv : Hid (depthN n = depthL (n.kids.take i) 0 + 1) := by
          show _ = _
          rw [depthN_eq, List.take_of_length_le (by omega)]
        rw [hv.out] at hd1
        have hge := depthL_ge (n.kids.take i) 0
        generalize depthL (n.kids.take i) 0 = M at *
        go_wp2
        go_ret
        exact ⟨ret_int hv.out.symm, by (repeat (first | exact Below.refl _ _ | with_reducible assumption | refine bel_ext ?_ _ _ | refine bel_alloc ?_ _ | refine bel_drew ?_ | refine bel_drewN ?_ _ | refine bel_set ?_ (by simp; try omega) _))⟩

end Go.Proofs.YtckalplhaggaoaaGreatDoor

namespace Go.Proofs.YtckalplhaggaoaaGreatDoor
open Go.RowKit

set_option maxHeartbeats 1600000 in
set_option maxRecDepth 100000 in
theorem ref_Depth (N : Nat) : ∀ (n : GNode) (A : Option Addr) (k c : Nat) (Z : Nat → Prop) (w : World), nsz n ≤ N → depthN n ≤ 4000000000000000000 → RdN Z w n (.slice A k c) →
    Calls Tryz.prog 16 #[nodeV n (.slice A k c)] w fun e w' => e = .returned (.int .i64 (depthN n)) ∧ Bel w w' := by
  induction N with
  | zero => intro n A k c Z w hN; exfalso; have := nsz_pos n; omega
  | succ N ih =>
    intro n A k c Z w hN hd hr
    have HI := Lib.hid ih
    clear ih
    obtain ⟨hk, hk2, -, g, o, hpos, hkid⟩ := hr.kid
    subst hk
    by_cases hp : 0 < n.kids.length
    case neg =>
      have h0 : n.kids.length = 0 := by omega
      have hv : Hid (depthN n = 1) := by
        show _ = _
        rw [depthN_eq, List.eq_nil_of_length_eq_zero h0, depthL]; rfl
      clear hkid hpos hr hd hN hk2 hp
      rw [h0]
      unfold nodeV
      go_enter Tryz.func16, Tryz.ntmps16
      go_wp2
      refine wp_loop_rounds 1 ?_
      rw [rounds_succ]
      go_wp2
      go_ret
      exact ⟨ret_int hv.out.symm, by (repeat (first | exact Below.refl _ _ | with_reducible assumption | refine bel_ext ?_ _ _ | refine bel_alloc ?_ _ | refine bel_drew ?_ | refine bel_drewN ?_ _ | refine bel_set ?_ (by simp; try omega) _))⟩
    obtain ⟨rfl, hZ, hg⟩ := hpos hp
    have Hkid := Lib.hid hkid
    have Hd := Lib.hid hd
    have HN := Lib.hid hN
    have h00 : Hid (depthL (n.kids.take 0) 0 = 0) := by show _ = _; rw [List.take_zero, depthL]
    clear hkid hpos hr hd hN
    unfold nodeV
    go_enter Tryz.func16, Tryz.ntmps16
    go_wp2
    generalize hW : w.alloc _ = W
    have hb0 : Bel w W := by rw [← hW]; exact bel1 _ _
    have hsl : W.cell? ⟨w.heap.size, 12, none⟩ = some (.slice (some ⟨g, o, none⟩) n.kids.length c) := by rw [← hW]; exact (World.cell?_alloc_at _ _ _ _ rfl).trans rfl
    have hsz : W.heap.size = w.heap.size + 1 := by rw [← hW]; exact Array.size_push _
    clear hW
    go_loopw [3, 4] (fun m t wr => ∃ i : Nat, i ≤ n.kids.length ∧ t = .int .i64 i ∧ m = .int .i64 (depthL (n.kids.take i) 0) ∧ Bel W wr) (fun _ t _ => n.kids.length - (intOf t).toNat)
    case atStart => exact ⟨0, Nat.zero_le _, rfl, by rw [h00.out], Below.refl _ _⟩
    case round =>
      obtain ⟨i, hi, rfl, rfl, hb1⟩ := hrel
      have hb := hb0.then_ hb1
      have hsl1 := (hb1.cells w.heap.size 12 (by omega)).trans hsl
      by_cases hlt : i < n.kids.length
      · obtain ⟨A', c', hs1, hs2⟩ := Hkid.out i hlt
        have HC := Lib.hid (fun w1 (b1 : Bel w w1) => HI.out n.kids[i] A' n.kids[i].kids.length c' Z w1 (by have := nsz_kid n i hlt; have := HN.out; omega) (by have := depthN_kid n i hlt; have := Hd.out; omega) (hs1.bel b1))
        have hd1 := depthN_kid n i hlt
        have hd2 := Hd.out
        have hst := Lib.hid (depthL_succ n.kids i hlt)
        have hc := hs2.bel hb hg
        clear hs1 hs2
        generalize depthL (n.kids.take i) 0 = M at *
        generalize depthN n.kids[i] = D at *
        unfold nodeAt at hc
        obtain ⟨q0, q1, q2, q3, q4, q5, q6, q7, q8, q9, q10, q11, q12⟩ := hc
        generalize n.kids[i] = kd at *
        have hlen : (i : Int) < n.kids.length := by omega
        go_wp2_with (go_at_call 16; refine (HC.out _ (by (repeat (first | exact Below.refl _ _ | with_reducible assumption | refine bel_ext ?_ _ _ | refine bel_alloc ?_ _ | refine bel_drew ?_ | refine bel_drewN ?_ _ | refine bel_set ?_ (by simp; try omega) _)))).mono ?_; rintro e' w' ⟨rfl, hb'⟩; obtain ⟨d', o', rfl⟩ := hb'.ext; clear hb')
        all_goals (go_roundw)
        all_goals first
          | exact ⟨i + 1, by omega, by go_num, by rw [hst.out]; refine congrArg _ ?_; split <;> omega, by (repeat (first | exact Below.refl _ _ | with_reducible assumption | refine bel_ext ?_ _ _ | refine bel_alloc ?_ _ | refine bel_drew ?_ | refine bel_drewN ?_ _ | refine bel_set ?_ (by simp; try omega) _))⟩
          | (simp [intOf]; omega)
      · have hd1 := Hd.out
        have hv : Hid (depthN n = depthL (n.kids.take i) 0 + 1) := by
          show _ = _
          rw [depthN_eq, List.take_of_length_le (by omega)]
        rw [hv.out] at hd1
        have hge := depthL_ge (n.kids.take i) 0
        have hlen : ¬ (i : Int) < n.kids.length := by omega
        generalize depthL (n.kids.take i) 0 = M at *
        go_wp2
        go_ret
        exact ⟨ret_int hv.out.symm, by (repeat (first | exact Below.refl _ _ | with_reducible assumption | refine bel_ext ?_ _ _ | refine bel_alloc ?_ _ | refine bel_drew ?_ | refine bel_drewN ?_ _ | refine bel_set ?_ (by simp; try omega) _))⟩

/-- Has a node but what its kind names? -/
def bareN (n : GNode) : Bool :=
  if n.kind = 1 then n.op.toList.isEmpty && (n.name.toList.isEmpty && (eqCell n.cell .zero && (eqCell n.to .zero && decide ((n.kids.length : Int) = 0))))
  else if n.kind = 2 then n.op.toList.isEmpty && (n.name.toList.isEmpty && (eqVal n.val .zero && (eqCell n.to .zero && decide ((n.kids.length : Int) = 0))))
  else if n.kind = 3 then n.op.toList.isEmpty && (n.name.toList.isEmpty && (eqVal n.val .zero && decide ((n.kids.length : Int) = 0)))
  else if n.kind = 4 ∨ n.kind = 5 then n.name.toList.isEmpty && (eqVal n.val .zero && (eqCell n.cell .zero && eqCell n.to .zero))
  else if n.kind = 6 then n.op.toList.isEmpty && (eqVal n.val .zero && (eqCell n.cell .zero && eqCell n.to .zero))
  else if n.kind = 7 then n.op.toList.isEmpty && (n.name.toList.isEmpty && (eqVal n.val .zero && (eqCell n.cell .zero && (eqCell n.to .zero && decide ((n.kids.length : Int) = 0)))))
  else false

set_option maxHeartbeats 3200000 in
set_option maxRecDepth 100000 in
theorem ref_bare (n : GNode) (A : Option Addr) (c : Nat) (w : World) :
    Calls Tryz.prog 24 #[nodeV n (.slice A n.kids.length c)] w fun e w' => e = .returned (.bool (bareN n)) ∧ Bel w w' := by
  unfold nodeV
  go_enter Tryz.func24, Tryz.ntmps24
  go_wp2
  all_goals (go_ret; refine ⟨ret_bool ?_, by (repeat (first | exact Below.refl _ _ | with_reducible assumption | refine bel_ext ?_ _ _ | refine bel_alloc ?_ _ | refine bel_drew ?_ | refine bel_drewN ?_ _ | refine bel_set ?_ (by simp; try omega) _))⟩; go_tidy; simp_all [bareN, GCell.zero, GVal.zero] <;> (rw [Bool.eq_iff_iff]; simp))

end Go.Proofs.YtckalplhaggaoaaGreatDoor

namespace Go.Proofs.YtckalplhaggaoaaGreatDoor
open Go.RowKit

mutual
/-- May a node be, its depth not asked? -/
def rightR : GNode → Bool
  | ⟨k, op, nm, v, c, t, kids⟩ => bareN ⟨k, op, nm, v, c, t, kids⟩ && (rightRL kids && fieldsN ⟨k, op, nm, v, c, t, kids⟩)
def rightRL : List GNode → Bool
  | [] => true
  | k :: ks => rightR k && rightRL ks
end
theorem rightR_eq (n : GNode) : rightR n = (bareN n && (rightRL n.kids && fieldsN n)) := by
  obtain ⟨a, b, c, d, e, f, g⟩ := n
  rw [rightR]
theorem rightRL_all : ∀ l : List GNode, rightRL l = l.all rightR
  | [] => by rw [rightRL]; rfl
  | k :: ks => by rw [rightRL, rightRL_all ks]; rfl
theorem take_all_succ {α : Type} (p : α → Bool) (l : List α) (i : Nat) (h : i < l.length) : (l.take (i + 1)).all p = ((l.take i).all p && p l[i]) := by
  rw [take_succ_get l i h, List.all_append]; simp only [List.all_cons, List.all_nil, Bool.and_true]
theorem all_get_false {α : Type} (p : α → Bool) (l : List α) (i : Nat) (h : i < l.length) (hp : p l[i] = false) : l.all p = false := by
  rw [List.all_eq_false]; exact ⟨l[i], List.getElem_mem h, by simp [hp]⟩

theorem ref_Area' (a b : GCell) (ha : okCell a) (hb : okCell b) (w : World) :
    Calls Tryz.prog 26 #[.agg #[.string a.sheet, .int .i64 a.col, .int .i64 a.row, .string b.sheet, .int .i64 b.col, .int .i64 b.row]] w fun e w' => e = .returned (.tuple #[.int .i64 (if areaOk a b then areaN a b else 0), .bool (areaOk a b)]) ∧ Bel w w' := ref_Area a b ha hb w

set_option maxHeartbeats 4000000 in
set_option maxRecDepth 100000 in
theorem ref_right (N : Nat) : ∀ (n : GNode) (A : Option Addr) (k c : Nat) (Z : Nat → Prop) (w : World), nsz n ≤ N → RdN Z w n (.slice A k c) →
    Calls Tryz.prog 17 #[nodeV n (.slice A k c)] w fun e w' => e = .returned (.bool (rightR n)) ∧ Bel w w' := by
  induction N with
  | zero => intro n A k c Z w hN; exfalso; have := nsz_pos n; omega
  | succ N ih =>
    intro n A k c Z w hN hr
    have HI := Lib.hid ih
    clear ih
    have hok := hr.kids.1
    obtain ⟨hk, hk2, -, g, o, hpos, hkid⟩ := hr.kid
    subst hk
    by_cases hbare : bareN n = true
    case neg =>
      have hb' : bareN n = false := by simpa using hbare
      have hv : Hid (rightR n = false) := by show _ = _; rw [rightR_eq, hb']; rfl
      have HB := Lib.hid (fun w => ref_bare n A c w)
      rw [hb'] at HB
      clear hb' hbare hkid hpos hr hN hok
      unfold nodeV at *
      go_enter Tryz.func17, Tryz.ntmps17
      go_wp2_with (go_at_call 24; refine (HB.out _).mono ?_; rintro e' w' ⟨rfl, hb'⟩; obtain ⟨d', o', rfl⟩ := hb'.ext; clear hb')
      go_ret
      exact ⟨ret_bool hv.out.symm, by (repeat (first | exact Below.refl _ _ | with_reducible assumption | refine bel_ext ?_ _ _ | refine bel_alloc ?_ _ | refine bel_drew ?_ | refine bel_drewN ?_ _ | refine bel_set ?_ (by simp; try omega) _))⟩
    have HB := Lib.hid (fun w => ref_bare n A c w)
    rw [hbare] at HB
    have hv : Hid (rightR n = (n.kids.all rightR && fieldsN n)) := by show _ = _; rw [rightR_eq, hbare, rightRL_all]; rfl
    have Hkid := Lib.hid hkid
    have HN := Lib.hid hN
    have Hpos := Lib.hid hpos
    have hc1 : okCell ⟨n.cell.sheet, n.cell.col, n.cell.row⟩ := hok.2.2.2.2.2.1
    have hc2 : okCell ⟨n.to.sheet, n.to.col, n.to.row⟩ := hok.2.2.2.2.2.2.1
    have hs1 : n.cell.sheet.size ≤ 9223372036854775807 := by have := hc1.1; simp at this; omega
    have hnm : n.name.size ≤ 9223372036854775807 := by have := hok.2.2.2.1; omega
    have hf0 : Hid (fieldsN n = if n.kind = 1 then rightV n.val && ((n.val.kind == 1 && decide (0 ≤ n.val.n)) || n.val.kind == 2 || n.val.kind == 3)
      else if n.kind = 2 then rightC n.cell
      else if n.kind = 3 then areaOk n.cell n.to && decide ((if areaOk n.cell n.to then areaN n.cell n.to else 0) ≤ 400)
      else if n.kind = 4 then n.op.toList == [45] && decide ((n.kids.length : Int) = 1)
      else if n.kind = 5 then isOp n.op && decide ((n.kids.length : Int) = 2)
      else if n.kind = 6 then callB n.name && decide ((n.kids.length : Int) ≤ 20)
      else true) := by
      show _ = _
      have h7 : n.kind = 1 ∨ n.kind = 2 ∨ n.kind = 3 ∨ n.kind = 4 ∨ n.kind = 5 ∨ n.kind = 6 ∨ n.kind = 7 := by
        unfold bareN at hbare; grind
      unfold fieldsN constV smallR
      rcases h7 with h | h | h | h | h | h | h <;> simp [h]
      by_cases ho : areaOk n.cell n.to = true
      · simp [ho]
      · have : areaOk n.cell n.to = false := by simpa using ho
        simp [this]
    have hf : Hid (fieldsN n = if n.kind = 1 then rightV ⟨n.val.kind, n.val.n, n.val.s⟩ && ((n.val.kind == 1 && decide (0 ≤ n.val.n)) || n.val.kind == 2 || n.val.kind == 3)
      else if n.kind = 2 then rightC ⟨n.cell.sheet, n.cell.col, n.cell.row⟩
      else if n.kind = 3 then areaOk ⟨n.cell.sheet, n.cell.col, n.cell.row⟩ ⟨n.to.sheet, n.to.col, n.to.row⟩ && decide ((if areaOk ⟨n.cell.sheet, n.cell.col, n.cell.row⟩ ⟨n.to.sheet, n.to.col, n.to.row⟩ then areaN ⟨n.cell.sheet, n.cell.col, n.cell.row⟩ ⟨n.to.sheet, n.to.col, n.to.row⟩ else 0) ≤ 400)
      else if n.kind = 4 then n.op.toList == [45] && decide ((n.kids.length : Int) = 1)
      else if n.kind = 5 then isOp n.op && decide ((n.kids.length : Int) = 2)
      else if n.kind = 6 then callB n.name && decide ((n.kids.length : Int) ≤ 20)
      else true) := hf0
    clear hkid hpos hr hN hok hbare hf0
    unfold nodeV at HB
    unfold nodeV
    go_enter Tryz.func17, Tryz.ntmps17
    go_wp2_with (go_at_call 24; refine (HB.out _).mono ?_; rintro e' w' ⟨rfl, hb'⟩; obtain ⟨d', o', rfl⟩ := hb'.ext; clear hb')
    generalize hW : ext (w.alloc _) _ _ = W
    have hb0 : Bel w W := by rw [← hW]; (repeat (first | exact Below.refl _ _ | with_reducible assumption | refine bel_ext ?_ _ _ | refine bel_alloc ?_ _ | refine bel_drew ?_ | refine bel_drewN ?_ _ | refine bel_set ?_ (by simp; try omega) _))
    have hcl : Hid (nodeAt W w.heap.size 0 n (.slice A n.kids.length c)) := by
      show nodeAt _ _ _ _ _
      rw [← hW]
      unfold nodeAt
      refine ⟨?_, ?_, ?_, ?_, ?_, ?_, ?_, ?_, ?_, ?_, ?_, ?_, ?_⟩ <;> (rw [cell_ext _ _ _ _ _ (by show _ < (Array.push _ _).size; rw [Array.size_push]; omega)]; exact (World.cell?_alloc_at _ _ _ _ rfl).trans rfl)
    have hsz : w.heap.size < W.heap.size := by rw [← hW, size_ext]; show _ < (Array.push _ _).size + _; rw [Array.size_push]; omega
    clear hW HB
    go_loopw [3] (fun t wr => ∃ i : Nat, i ≤ n.kids.length ∧ t = .int .i64 i ∧ Hid ((n.kids.take i).all rightR = true) ∧ Bel W wr) (fun t _ => n.kids.length - (intOf t).toNat)
    case atStart => exact ⟨0, Nat.zero_le _, rfl, rfl, Below.refl _ _⟩
    case round =>
      obtain ⟨i, hi, rfl, hall, hb1⟩ := hrel
      have hb := hb0.then_ hb1
      have hcl1 := nodeAt.bel hcl.out hb1 hsz
      by_cases hlt : i < n.kids.length
      · obtain ⟨rfl, hZ, hg⟩ := Hpos.out (by omega)
        obtain ⟨A', c', hs1, hs2⟩ := Hkid.out i hlt
        have HC := Lib.hid (fun w1 (b1 : Bel w w1) => HI.out n.kids[i] A' n.kids[i].kids.length c' Z w1 (by have := nsz_kid n i hlt; have := HN.out; omega) (hs1.bel b1))
        have hst := Lib.hid (take_all_succ rightR n.kids i hlt)
        have hno := Lib.hid (all_get_false rightR n.kids i hlt)
        have hc := hs2.bel hb hg
        clear hs1 hs2
        have hlen : (i : Int) < n.kids.length := by omega
        have q := hcl1.2.2.2.2.2.2.2.2.2.2.2.2
        clear hcl1
        unfold nodeAt at hc
        obtain ⟨q0, q1, q2, q3, q4, q5, q6, q7, q8, q9, q10, q11, q12⟩ := hc
        rcases hR : rightR n.kids[i] with _ | _
        · have hvf : Hid (rightR n = false) := by show _ = _; rw [hv.out, hno.out hR]; rfl
          rw [hR] at HC
          clear hst hno hR
          generalize n.kids[i] = kd at *
          go_wp2_with (go_at_call 17; refine (HC.out _ (by (repeat (first | exact Below.refl _ _ | with_reducible assumption | refine bel_ext ?_ _ _ | refine bel_alloc ?_ _ | refine bel_drew ?_ | refine bel_drewN ?_ _ | refine bel_set ?_ (by simp; try omega) _)))).mono ?_; rintro e' w' ⟨rfl, hb'⟩; obtain ⟨d', o', rfl⟩ := hb'.ext; clear hb')
          go_ret
          exact ⟨ret_bool hvf.out.symm, by (repeat (first | exact Below.refl _ _ | with_reducible assumption | refine bel_ext ?_ _ _ | refine bel_alloc ?_ _ | refine bel_drew ?_ | refine bel_drewN ?_ _ | refine bel_set ?_ (by simp; try omega) _))⟩
        · have H : Hid ((n.kids.take (i + 1)).all rightR = true) := by show _ = _; rw [hst.out, hall.out, hR]; rfl
          rw [hR] at HC
          clear hst hno hR
          generalize n.kids[i] = kd at *
          go_wp2_with (go_at_call 17; refine (HC.out _ (by (repeat (first | exact Below.refl _ _ | with_reducible assumption | refine bel_ext ?_ _ _ | refine bel_alloc ?_ _ | refine bel_drew ?_ | refine bel_drewN ?_ _ | refine bel_set ?_ (by simp; try omega) _)))).mono ?_; rintro e' w' ⟨rfl, hb'⟩; obtain ⟨d', o', rfl⟩ := hb'.ext; clear hb')
          go_roundw
          case rel => exact ⟨i + 1, by omega, by go_num, H, by (repeat (first | exact Below.refl _ _ | with_reducible assumption | refine bel_ext ?_ _ _ | refine bel_alloc ?_ _ | refine bel_drew ?_ | refine bel_drewN ?_ _ | refine bel_set ?_ (by simp; try omega) _))⟩
          case measure => simp [intOf]; omega
      · have hvv : Hid (rightR n = fieldsN n) := by
          show _ = _
          have := hall.out
          rw [List.take_of_length_le (by omega)] at this
          rw [hv.out, this]; rfl
        have hlen : ¬ (i : Int) < n.kids.length := by omega
        have hszr : w.heap.size < wr.heap.size := Nat.lt_of_lt_of_le hsz hb1.size
        unfold nodeAt at hcl1
        obtain ⟨q0, q1, q2, q3, q4, q5, q6, q7, q8, q9, q10, q11, q12⟩ := hcl1
        simp only [Nat.zero_add] at q0 q1 q2 q3 q4 q5 q6 q7 q8 q9 q10 q11 q12
        clear hcl hall hv hi
        go_wp2_with (first
          | (go_at_call 8; refine (ref_RightValue ⟨_, _, _⟩ _).mono ?_; rintro e' w' ⟨rfl, hb'⟩; obtain ⟨d', o', rfl⟩ := hb'.ext; clear hb')
          | (go_at_call 25; refine (ref_RightCell ⟨n.cell.sheet, n.cell.col, n.cell.row⟩ hs1 _).mono ?_; rintro e' w' ⟨rfl, hb'⟩; obtain ⟨d', o', rfl⟩ := hb'.ext; clear hb')
          | (go_at_call 26; refine (ref_Area' ⟨n.cell.sheet, n.cell.col, n.cell.row⟩ ⟨n.to.sheet, n.to.col, n.to.row⟩ hc1 hc2 _).mono ?_; rintro e' w' ⟨rfl, hb'⟩; obtain ⟨d', o', rfl⟩ := hb'.ext; clear hb')
          | (go_at_call 27; refine (ref_op _ _).mono ?_; rintro e' w' ⟨rfl, hb'⟩; obtain ⟨d', o', rfl⟩ := hb'.ext; clear hb')
          | (go_at_call 28; refine (ref_callName _ hnm _).mono ?_; rintro e' w' ⟨rfl, rfl⟩))
        all_goals (go_ret; refine ⟨ret_bool ?_, by (repeat (first | exact Below.refl _ _ | with_reducible assumption | refine bel_ext ?_ _ _ | refine bel_alloc ?_ _ | refine bel_drew ?_ | refine bel_drewN ?_ _ | refine bel_set ?_ (by simp; try omega) _))⟩; rw [hvv.out, hf.out]; go_tidy; clear hvv hf q0 q1 q2 q3 q4 q5 q6 q7 q8 q9 q10 q11 q12 hc1 hc2 hs1 hnm; first | (simp_all; done) | (simp_all; rw [Bool.eq_iff_iff]; simp; try omega))

end Go.Proofs.YtckalplhaggaoaaGreatDoor
