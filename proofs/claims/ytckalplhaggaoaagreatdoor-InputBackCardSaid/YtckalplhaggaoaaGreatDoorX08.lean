/- Towards InputBack: what is shown as input is read back as it was, for every entry and every text; no condition. Part 8 of 28. -/
import Derived.Test.YtckalplhaggaoaaGreatDoorX07
import Derived.Test.YtckalplhaggaoaaGreatDoorX03
import Derived.Test.YtckalplhaggaoaaGreatDoorX05
import Derived.Deep.RegionHeld3
set_option linter.unusedVariables false
set_option linter.unusedSimpArgs false
namespace Go.Proofs.YtckalplhaggaoaaGreatDoor
open Go.RowKit

def IsLaw : Prop := ∀ (s : ByteArray) (w : World), Calls Tryz.prog 94 #[.string s] w fun e w' => e = .returned (.bool (isOp s)) ∧ Bel w w'

set_option maxHeartbeats 1600000 in
theorem tree_fields (hIs : IsLaw) (n : GNode) (A : Option Addr) (c : Nat) (w : World) (hok : okTop n) :
    Calls Tryz.prog 64 #[nodeV n (.slice A n.kids.length c)] w fun e w' => e = .returned (.bool (fieldsN n)) ∧ Bel w w' := by
  have hc1 : okCell ⟨n.cell.sheet, n.cell.col, n.cell.row⟩ := hok.2.2.2.2.2.1
  have hc2 : okCell ⟨n.to.sheet, n.to.col, n.to.row⟩ := hok.2.2.2.2.2.2.1
  have hs1 : n.cell.sheet.size ≤ 9223372036854775807 := by have := hc1.1; simp at this; omega
  have hnm : n.name.size ≤ 9223372036854775807 := by have := hok.2.2.2.1; omega
  have hf : Hid (fieldsN n = if n.kind = 1 then constV ⟨n.val.kind, n.val.n, n.val.s⟩
    else if n.kind = 2 then rightC ⟨n.cell.sheet, n.cell.col, n.cell.row⟩
    else if n.kind = 3 then smallR ⟨n.cell.sheet, n.cell.col, n.cell.row⟩ ⟨n.to.sheet, n.to.col, n.to.row⟩
    else if n.kind = 4 then n.op.toList == [45] && decide ((n.kids.length : Int) = 1)
    else if n.kind = 5 then isOp n.op && decide ((n.kids.length : Int) = 2)
    else if n.kind = 6 then callB n.name && decide ((n.kids.length : Int) ≤ 20)
    else n.kind == 7) := by show fieldsN n = _; rfl
  clear hok
  unfold nodeV
  go_enter Tryz.func64, Tryz.ntmps64
  go_wp2_with (first
    | (go_at_call 91; refine (tree_constant ⟨_, _, _⟩ _).mono ?_; rintro e' w' ⟨rfl, hb'⟩; obtain ⟨d', o', rfl⟩ := hb'.ext; clear hb')
    | (go_at_call 70; refine (addr_Right ⟨n.cell.sheet, n.cell.col, n.cell.row⟩ hs1 _).mono ?_; rintro e' w' ⟨rfl, hb'⟩; obtain ⟨d', o', rfl⟩ := hb'.ext; clear hb')
    | (go_at_call 93; refine (tree_Range n _ _).mono ?_; rintro e' w' ⟨rfl, hb'⟩; obtain ⟨d', o', rfl⟩ := hb'.ext; clear hb')
    | (go_at_call 92; refine (addr_Small ⟨n.cell.sheet, n.cell.col, n.cell.row⟩ ⟨n.to.sheet, n.to.col, n.to.row⟩ hc1 hc2 _).mono ?_; rintro e' w' ⟨rfl, hb'⟩; obtain ⟨d', o', rfl⟩ := hb'.ext; clear hb')
    | (go_at_call 94; refine (hIs _ _).mono ?_; rintro e' w' ⟨rfl, hb'⟩; obtain ⟨d', o', rfl⟩ := hb'.ext; clear hb')
    | (go_at_call 95; refine (tree_Call _ hnm _).mono ?_; rintro e' w' ⟨rfl, rfl⟩))
  all_goals (go_ret; refine ⟨ret_bool ?_, by (repeat (first | exact Below.refl _ _ | with_reducible assumption | refine bel_ext ?_ _ _ | refine bel_alloc ?_ _ | refine bel_drew ?_ | refine bel_drewN ?_ _ | refine bel_set ?_ (by simp; try omega) _))⟩; rw [hf.out]; go_tidy; clear hf hc1 hc2 hs1 hnm hIs; first | (simp_all; done) | (simp_all; rw [Bool.eq_iff_iff]; simp; try omega))

theorem bare_own {n : GNode} (h : bareN n = true) : eqOwn n (onlyN n) = true := by
  have z : eqVal .zero .zero = true := (eqVal_iff _ _).2 rfl
  have zc : eqCell .zero .zero = true := (eqCell_iff _ _).2 rfl
  have rv : ∀ v, eqVal v v = true := fun v => (eqVal_iff _ _).2 rfl
  have rc : ∀ v, eqCell v v = true := fun v => (eqCell_iff _ _).2 rfl
  have e0 : (⟨#[]⟩ : ByteArray).toList = [] := by rw [Lib.toList_data]
  unfold bareN at h
  unfold onlyN eqOwn
  split at h
  · rename_i hk; simp_all [GNode.zero]
  split at h
  · rename_i hk; simp_all [GNode.zero]
  split at h
  · rename_i hk; simp_all [GNode.zero]
  split at h
  · rename_i hk; rcases hk with hk | hk <;> simp_all [GNode.zero]
  split at h
  · rename_i hk; simp_all [GNode.zero]
  split at h
  · rename_i hk; simp_all [GNode.zero]
  · cases h
theorem bare_kids {n : GNode} (h : bareN n = true) (A : Option Addr) (c : Nat) : ∃ A' c', onlyV n (.slice A n.kids.length c) = nodeV (onlyN n) (.slice A' n.kids.length c') := by
  unfold onlyV
  by_cases hk : n.kind = 4 ∨ n.kind = 5 ∨ n.kind = 6
  · exact ⟨A, c, by rw [if_pos hk]⟩
  · refine ⟨none, 0, ?_⟩
    rw [if_neg hk]
    have : n.kids.length = 0 := by
      unfold bareN at h
      have h4 : ¬ (n.kind = 4 ∨ n.kind = 5) := fun h => hk (by omega)
      have h6 : ¬ n.kind = 6 := fun h => hk (by omega)
      rw [if_neg h4, if_neg h6] at h
      split at h
      · simp at h; simp [h]
      split at h
      · simp at h; simp [h]
      split at h
      · simp at h; simp [h]
      split at h
      · simp at h; simp [h]
      · cases h
    rw [this]

set_option maxHeartbeats 1600000 in
set_option maxRecDepth 100000 in
theorem nodes_IndexFunc (l : List GNode) (A : Option Addr) (c : Nat) (p : Addr) (g o : Nat) (w : World) (hc : l.length ≤ c) (hlen : l.length ≤ 140737488351232)
    (hpos : 0 < l.length → A = some ⟨g, o, none⟩ ∧ g < w.heap.size)
    (hk : ∀ i (hi : i < l.length), ∃ s, nodeAt w g (o + i * 13) l[i] s ∧ ∀ w1, Bel w w1 → Calls Tryz.prog 68 #[nodeV l[i] s, .pointer (some p)] w1 fun e w' => e = .returned (.bool false) ∧ Bel w1 w') :
    Calls Tryz.prog 96 #[.slice A l.length c, .func (.func 68) #[] #[.pointer (some p)]] w fun e w' => e = .returned (.int .i64 (-1)) ∧ Bel w w' := by
  have Hk := Lib.hid hk
  have Hpos := Lib.hid hpos
  clear hk hpos
  go_enter Tryz.func96, Tryz.ntmps96
  go_wp2
  go_loopw [8] (fun t wr => ∃ i : Nat, i ≤ l.length ∧ t = .int .i64 i ∧ Bel w wr) (fun t _ => l.length - (intOf t).toNat)
  case atStart => exact ⟨0, Nat.zero_le _, rfl, Below.refl _ _⟩
  case round =>
    obtain ⟨i, hi, rfl, hb⟩ := hrel
    by_cases hlt : i < l.length
    · have hl : (i : Int) < l.length := by omega
      obtain ⟨rfl, hg⟩ := Hpos.out (by omega)
      obtain ⟨s, hs1, hs2⟩ := Hk.out i hlt
      have HC := Lib.hid (hs2 wr hb)
      have hcl := hs1.bel hb hg
      clear hs1 hs2
      generalize l[i] = kd at *
      unfold nodeAt at hcl
      obtain ⟨q0, q1, q2, q3, q4, q5, q6, q7, q8, q9, q10, q11, q12⟩ := hcl
      go_wp2_with (go_at_call 68; refine (HC.out).mono ?_; rintro e' w' ⟨rfl, hb'⟩; obtain ⟨d', o', rfl⟩ := hb'.ext; clear hb')
      go_roundw
      case rel => exact ⟨i + 1, by omega, by go_num, by (repeat (first | exact Below.refl _ _ | with_reducible assumption | refine bel_ext ?_ _ _ | refine bel_alloc ?_ _ | refine bel_drew ?_ | refine bel_drewN ?_ _ | refine bel_set ?_ (by simp; try omega) _))⟩
      case measure => simp [intOf]; omega
    · have hl : ¬ (i : Int) < l.length := by omega
      go_wp2
      go_ret
      exact ⟨rfl, by (repeat (first | exact Below.refl _ _ | with_reducible assumption | refine bel_ext ?_ _ _ | refine bel_alloc ?_ _ | refine bel_drew ?_ | refine bel_drewN ?_ _ | refine bel_set ?_ (by simp; try omega) _))⟩

set_option maxHeartbeats 400000 in
theorem nodes_ContainsFunc (l : List GNode) (A : Option Addr) (c : Nat) (p : Addr) (g o : Nat) (w : World) (hc : l.length ≤ c) (hlen : l.length ≤ 140737488351232)
    (hpos : 0 < l.length → A = some ⟨g, o, none⟩ ∧ g < w.heap.size)
    (hk : ∀ i (hi : i < l.length), ∃ s, nodeAt w g (o + i * 13) l[i] s ∧ ∀ w1, Bel w w1 → Calls Tryz.prog 68 #[nodeV l[i] s, .pointer (some p)] w1 fun e w' => e = .returned (.bool false) ∧ Bel w1 w') :
    Calls Tryz.prog 67 #[.slice A l.length c, .func (.func 68) #[] #[.pointer (some p)]] w fun e w' => e = .returned (.bool false) ∧ Bel w w' := by
  have HC := Lib.hid (nodes_IndexFunc l A c p g o w hc hlen hpos hk)
  clear hk hpos
  go_enter Tryz.func67, Tryz.ntmps67
  go_wp2_with (go_at_call 96; refine (HC.out).mono ?_; rintro e' w' ⟨rfl, hb'⟩; obtain ⟨d', o', rfl⟩ := hb'.ext; clear hb')
  go_ret
  exact ⟨rfl, by (repeat (first | exact Below.refl _ _ | with_reducible assumption | refine bel_ext ?_ _ _ | refine bel_alloc ?_ _ | refine bel_drew ?_ | refine bel_drewN ?_ _ | refine bel_set ?_ (by simp; try omega) _))⟩

end Go.Proofs.YtckalplhaggaoaaGreatDoor

namespace Go.Proofs.YtckalplhaggaoaaGreatDoor
open Go.RowKit

set_option maxHeartbeats 400000 in
theorem tree_right1 (n : GNode) (A : Option Addr) (k c b : Nat) (d : Int) (w : World) (hb : b < w.heap.size) (hd : w.cell? ⟨b, 0, none⟩ = some (.int .i64 d)) (hd1 : 1 ≤ d) (hd2 : d ≤ 1000)
    (H : ∀ w1, Bel w w1 → Calls Tryz.prog 47 #[nodeV n (.slice A k c), .int .i64 (d - 1)] w1 fun e w' => e = .returned (.bool true) ∧ Bel w1 w') :
    Calls Tryz.prog 68 #[nodeV n (.slice A k c), .pointer (some ⟨b, 0, none⟩)] w fun e w' => e = .returned (.bool false) ∧ Bel w w' := by
  have HC := Lib.hid H
  clear H
  unfold nodeV at HC
  unfold nodeV
  go_enter Tryz.func68, Tryz.ntmps68
  go_wp2_with (go_at_call 47; refine (HC.out _ (by (repeat (first | exact Below.refl _ _ | with_reducible assumption | refine bel_ext ?_ _ _ | refine bel_alloc ?_ _ | refine bel_drew ?_ | refine bel_drewN ?_ _ | refine bel_set ?_ (by simp; try omega) _)))).mono ?_; rintro e' w' ⟨rfl, hb'⟩; obtain ⟨d', o', rfl⟩ := hb'.ext; clear hb')
  go_ret
  exact ⟨rfl, by (repeat (first | exact Below.refl _ _ | with_reducible assumption | refine bel_ext ?_ _ _ | refine bel_alloc ?_ _ | refine bel_drew ?_ | refine bel_drewN ?_ _ | refine bel_set ?_ (by simp; try omega) _))⟩

theorem rightRL_get {l : List GNode} (h : rightRL l = true) (i : Nat) (hi : i < l.length) : rightR l[i] = true := by
  rw [rightRL_all] at h
  exact List.all_eq_true.1 h _ (List.getElem_mem hi)

set_option maxHeartbeats 4000000 in
set_option maxRecDepth 100000 in
theorem tree_right (hIs : IsLaw) (N : Nat) : ∀ (n : GNode) (A : Option Addr) (k c : Nat) (d : Int) (Z : Nat → Prop) (w : World), nsz n ≤ N → rightR n = true → depthN n ≤ d → d ≤ 1000 → RdN Z w n (.slice A k c) →
    Calls Tryz.prog 47 #[nodeV n (.slice A k c), .int .i64 d] w fun e w' => e = .returned (.bool true) ∧ Bel w w' := by
  induction N with
  | zero => intro n A k c d Z w hN; exfalso; have := nsz_pos n; omega
  | succ N ih =>
    intro n A k c d Z w hN hR hd hd2 hr
    have HI := Lib.hid ih
    clear ih
    have hok := hr.kids.1
    obtain ⟨hk, hk2, hkc, g, o, hpos, hkid⟩ := hr.kid
    subst hk
    have hd1 : 1 ≤ d := by have := depthN_pos n; omega
    have hR' := hR
    rw [rightR_eq] at hR'
    obtain ⟨hbare, hR''⟩ := (Bool.and_eq_true_iff).1 hR'
    obtain ⟨hRL, hF⟩ := (Bool.and_eq_true_iff).1 hR''
    clear hR hR' hR''
    have HF := Lib.hid (fun w1 => tree_fields hIs n A c w1 hok)
    rw [hF] at HF
    obtain ⟨A', c', hov⟩ := bare_kids hbare A c
    have HO := Lib.hid (fun w1 => tree_only n w1 A n.kids.length c)
    rw [hov] at HO
    have HW := Lib.hid (fun w1 => tree_own n (onlyN n) (.slice A n.kids.length c) (.slice A' n.kids.length c') w1)
    rw [bare_own hbare] at HW
    have HK := Lib.hid (fun (w1 : World) (hb1 : Bel w w1) (b : Nat) (hbb : b < w1.heap.size) (hbd : w1.cell? ⟨b, 0, none⟩ = some (.int .i64 d)) =>
      nodes_ContainsFunc n.kids A c ⟨b, 0, none⟩ g o w1 hkc hk2 (fun hp => by obtain ⟨h1, _, h3⟩ := hpos hp; exact ⟨h1, Nat.lt_of_lt_of_le h3 hb1.size⟩)
        (fun i hi => by
          obtain ⟨A'', c'', h1, h2⟩ := hkid i hi
          have hg : g < w.heap.size := (hpos (by omega)).2.2
          refine ⟨_, h2.bel hb1 hg, fun w2 hb2 => ?_⟩
          have hbd2 := (hb2.cells b 0 hbb).trans hbd
          refine tree_right1 _ _ _ _ b d w2 (Nat.lt_of_lt_of_le hbb hb2.size) hbd2 hd1 hd2 (fun w3 hb3 => ?_)
          have hdk := depthN_kid n i hi
          exact HI.out _ _ _ _ _ Z w3 (by have := nsz_kid n i hi; omega) (rightRL_get hRL i hi) (by omega) (by omega) (h1.bel ((hb1.then_ hb2).then_ hb3))))
    clear hpos hkid hr hok hF hov hbare hRL hd hN HI hIs
    generalize onlyN n = m at *
    unfold nodeV at *
    go_enter Tryz.func47, Tryz.ntmps47
    go_wp2
    have hnl : decide (d < 1) = false := decide_eq_false (by omega)
    generalize hW : World.alloc _ _ = W
    have hb0 : Bel w W := by rw [← hW]; (repeat (first | exact Below.refl _ _ | with_reducible assumption | refine bel_ext ?_ _ _ | refine bel_alloc ?_ _ | refine bel_drew ?_ | refine bel_drewN ?_ _ | refine bel_set ?_ (by simp; try omega) _))
    have hcl : nodeAt W w.heap.size 0 n (.slice A n.kids.length c) := by
      rw [← hW]
      unfold nodeAt
      refine ⟨?_, ?_, ?_, ?_, ?_, ?_, ?_, ?_, ?_, ?_, ?_, ?_, ?_⟩ <;> (rw [World.cell?_alloc_past _ _ _ (by show _ < (Array.push _ _).size; rw [Array.size_push]; omega)]; exact (World.cell?_alloc_at _ _ _ _ rfl).trans rfl)
    have hcd : W.cell? ⟨w.heap.size + 1, 0, none⟩ = some (.int .i64 d) := by rw [← hW]; exact (World.cell?_alloc_at _ _ _ _ (by show _ = (Array.push _ _).size; rw [Array.size_push])).trans rfl
    have hsz : w.heap.size < W.heap.size := by rw [← hW]; show _ < (Array.push (Array.push _ _) _).size; rw [Array.size_push, Array.size_push]; omega
    have hsz2 : w.heap.size + 1 < W.heap.size := by rw [← hW]; show _ < (Array.push (Array.push _ _) _).size; rw [Array.size_push, Array.size_push]; omega
    clear hW
    unfold nodeAt at hcl
    obtain ⟨q0, q1, q2, q3, q4, q5, q6, q7, q8, q9, q10, q11, q12⟩ := hcl
    simp only [Nat.zero_add] at q0 q1 q2 q3 q4 q5 q6 q7 q8 q9 q10 q11 q12
    have hfd : ∀ w : World, (Instr.field 28 (.agg #[.int .i64 m.kind, .string m.op, .string m.name, .int .i64 m.val.kind, .int .i64 m.val.n, .string m.val.s, .string m.cell.sheet, .int .i64 m.cell.col, .int .i64 m.cell.row, .string m.to.sheet, .int .i64 m.to.col, .int .i64 m.to.row, .slice A' n.kids.length c']) 6).run Tryz.prog w = .ok (.slice A' n.kids.length c') w := fun _ => by kernel_rfl
    refine wp_region_bw (by kernel_rfl) (by kernel_rfl) ?_
    repeat (first | go_big_quiet_step (first
      | (go_at_call 64; exact Calls.bw (HF.out _))
      | (go_at_call 66; exact Calls.bw (HO.out _))
      | (go_at_call 65; exact Calls.bw (HW.out _))) | quiet_step (skip))
    refine wpQuiet_nil ?_
    intro _ hw'
    obtain ⟨pq, hw''⟩ := hw'
    subst hw''
    obtain ⟨d', o', hpq⟩ := pq.h.ext
    rw [hpq]
    go_wp2_with (go_at_call 67; refine (HK.out _ (by (repeat (first | exact Below.refl _ _ | with_reducible assumption | refine bel_ext ?_ _ _ | refine bel_alloc ?_ _ | refine bel_drew ?_ | refine bel_drewN ?_ _ | refine bel_set ?_ (by simp; try omega) _))) _ (by rw [size_ext]; omega) (by rw [cell_ext _ _ _ _ _ (by omega)]; exact hcd)).mono ?_; rintro e' w' ⟨rfl, hb'⟩; obtain ⟨d', o', rfl⟩ := hb'.ext; clear hb')
    go_ret
    exact ⟨rfl, by (repeat (first | exact Below.refl _ _ | with_reducible assumption | refine bel_ext ?_ _ _ | refine bel_alloc ?_ _ | refine bel_drew ?_ | refine bel_drewN ?_ _ | refine bel_set ?_ (by simp; try omega) _))⟩

set_option maxHeartbeats 400000 in
theorem tree_Right (hIs : IsLaw) (n : GNode) (A : Option Addr) (k c : Nat) (Z : Nat → Prop) (w : World) (hR : rightR n = true) (hd : depthN n ≤ 20) (hr : RdN Z w n (.slice A k c)) :
    Calls Tryz.prog 29 #[nodeV n (.slice A k c)] w fun e w' => e = .returned (.bool true) ∧ Bel w w' := by
  have HC := Lib.hid (fun w1 (b : Bel w w1) => tree_right hIs (nsz n) n A k c 20 Z w1 (Nat.le_refl _) hR hd (by omega) (hr.bel b))
  clear hr hR hd hIs
  unfold nodeV at HC
  unfold nodeV
  go_enter Tryz.func29, Tryz.ntmps29
  go_wp2_with (go_at_call 47; refine (HC.out _ (by (repeat (first | exact Below.refl _ _ | with_reducible assumption | refine bel_ext ?_ _ _ | refine bel_alloc ?_ _ | refine bel_drew ?_ | refine bel_drewN ?_ _ | refine bel_set ?_ (by simp; try omega) _)))).mono ?_; rintro e' w' ⟨rfl, hb'⟩; obtain ⟨d', o', rfl⟩ := hb'.ext; clear hb')
  go_ret
  exact ⟨rfl, by (repeat (first | exact Below.refl _ _ | with_reducible assumption | refine bel_ext ?_ _ _ | refine bel_alloc ?_ _ | refine bel_drew ?_ | refine bel_drewN ?_ _ | refine bel_set ?_ (by simp; try omega) _))⟩

end Go.Proofs.YtckalplhaggaoaaGreatDoor

namespace Go.Proofs.YtckalplhaggaoaaGreatDoor
open Go.RowKit

theorem countB_le (s : ByteArray) : Lib.countB s ⟨#[34]⟩ ≤ s.size := by
  show Lib.count s.data.toList [34] ≤ s.size
  rw [Lib.count_one]
  exact Nat.le_trans List.count_le_length (by rw [len_data]; exact Nat.le_refl _)

set_option maxHeartbeats 800000 in
theorem printer_constant (v : GVal) (w : World) (hg : Gl w) (hc : constV v = true) (h0 : -9223372036854775808 ≤ v.n) (h1 : v.n ≤ 9223372036854775807) :
    Calls Tryz.prog 48 #[.agg #[.int .i64 v.kind, .int .i64 v.n, .string v.s]] w fun e w' => e = .returned (.string (bs (constS v))) ∧ Bel w w' := by
  by_cases hk : v.kind = 2
  · have hs : v.s.size ≤ 200 := by simp [constV, rightV, hk] at hc; omega
    have HR := Lib.hid (fun w1 (b : Bel w w1) => by
      obtain ⟨m, hm⟩ := (hg.bel b).max
      exact Tryz.strings_ReplaceAll v.s ⟨#[34]⟩ ⟨#[34, 34]⟩ m w1 (by omega) hm (by decide) (by have := countB_le v.s; show _ + _ * 2 ≤ _; omega))
    have hd := dbl_len v.s.data.toList
    have hl := len_data v.s
    have z : ByteArray.size ⟨(dbl v.s.data.toList).toArray⟩ ≤ 400 := by show (dbl v.s.data.toList).toArray.size ≤ 400; simp only [List.size_toArray]; omega
    have hde : Lib.replaceAll v.s.data.toList (⟨#[34]⟩ : ByteArray).data.toList (⟨#[34, 34]⟩ : ByteArray).data.toList = dbl v.s.data.toList := dbl_eq _
    rw [hde] at HR
    have hv : Hid ((⟨#[34]⟩ : ByteArray) ++ ⟨(dbl v.s.data.toList).toArray⟩ ++ ⟨#[34]⟩ = bs (constS v)) := by
      show _ = _
      unfold constS bs
      rw [if_pos hk]
      apply toList_inj
      simp [Lib.toList_data]
    have hdl : (dbl v.s.data.toList).length ≤ 400 := by omega
    clear hc hde hd hl hg
    generalize dbl v.s.data.toList = D at *
    have z2 : ((⟨#[34]⟩ : ByteArray) ++ ⟨D.toArray⟩).size ≤ 401 := by rw [ByteArray.size_append]; show 1 + _ ≤ 401; omega
    go_enter Tryz.func48, Tryz.ntmps48
    go_wp2_with (go_at_call 69; refine (HR.out _ (by (repeat (first | exact Below.refl _ _ | with_reducible assumption | refine bel_ext ?_ _ _ | refine bel_alloc ?_ _ | refine bel_drew ?_ | refine bel_drewN ?_ _ | refine bel_set ?_ (by simp; try omega) _)))).mono ?_; rintro e' w' ⟨rfl, hb'⟩; obtain ⟨d', o', rfl⟩ := Bel.ext hb'; clear hb')
    go_ret
    exact ⟨ret_str hv.out, by (repeat (first | exact Below.refl _ _ | with_reducible assumption | refine bel_ext ?_ _ _ | refine bel_alloc ?_ _ | refine bel_drew ?_ | refine bel_drewN ?_ _ | refine bel_set ?_ (by simp; try omega) _))⟩
  · have hk' : (v.kind == 2) = false := by simpa using hk
    have HS := Lib.hid (fun w1 (b : Bel w w1) => value_Show v w1 (hg.bel b) h0 h1)
    have hv : Hid (showV v = bs (constS v)) := by
      show _ = _
      unfold constS bs
      rw [if_neg hk]
    clear hc hk hg
    go_enter Tryz.func48, Tryz.ntmps48
    go_wp2_with (go_at_call 19; refine (HS.out _ (by (repeat (first | exact Below.refl _ _ | with_reducible assumption | refine bel_ext ?_ _ _ | refine bel_alloc ?_ _ | refine bel_drew ?_ | refine bel_drewN ?_ _ | refine bel_set ?_ (by simp; try omega) _)))).mono ?_; rintro e' w' ⟨rfl, hb'⟩; obtain ⟨d', o', rfl⟩ := hb'.ext; clear hb')
    go_ret
    exact ⟨ret_str hv.out, by (repeat (first | exact Below.refl _ _ | with_reducible assumption | refine bel_ext ?_ _ _ | refine bel_alloc ?_ _ | refine bel_drew ?_ | refine bel_drewN ?_ _ | refine bel_set ?_ (by simp; try omega) _))⟩

theorem ownsRow_bel {B : Nat} {e : TypeId} {k : Nat} {v : Value} {n : Nat} {xs : List Value} {w w' : World} (h : w.ownsRow B e k v n xs) (hb : Bel w w') : w'.ownsRow B e k v n xs := by
  refine ⟨h.1, h.2.imp id ?_⟩
  rintro ⟨g, cap, cur, h1, h2, h3, h4⟩
  refine ⟨g, cap, cur, h1, h2, ?_, h4⟩
  have hg : g < w.heap.size := by
    by_cases hlt : g < w.heap.size
    · exact hlt
    · rw [Array.getElem?_eq_none (by omega)] at h3; cases h3
  rw [hb.block g hg]; exact h3
theorem ownBlock_ge {B : Nat} {e : TypeId} {k : Nat} {v : Value} {n : Nat} {xs : List Value} {w : World} (h : w.ownsRow B e k v n xs) : ∀ j, v.ownBlock = some j → B ≤ j := fun j hj => (h.lt j hj).1

theorem infoStr : (Tryz.prog.info? 9).map (fun i => (i.zero, i.size, i.bytes)) = some (some (.string ⟨#[]⟩), 1, 16) := by kernel_rfl
def strs (l : List GNode) : List Value := l.map fun k => .string (bs (showN k))
theorem strs_succ (l : List GNode) (i : Nat) (h : i < l.length) : strs (l.take (i + 1)) = strs (l.take i) ++ [.string (bs (showN l[i]))] := by
  unfold strs; rw [take_succ_get l i h, List.map_append]; rfl

set_option maxHeartbeats 1600000 in
set_option maxRecDepth 100000 in
theorem printer_kids (n : GNode) (A : Option Addr) (c : Nat) (g o : Nat) (w : World) (hlen : n.kids.length ≤ 1000)
    (hpos : 0 < n.kids.length → A = some ⟨g, o, none⟩ ∧ g < w.heap.size)
    (hk : ∀ i (hi : i < n.kids.length), ∃ A' c', nodeAt w g (o + i * 13) n.kids[i] (.slice A' n.kids[i].kids.length c') ∧ ∀ w1, Bel w w1 → Calls Tryz.prog 30 #[nodeV n.kids[i] (.slice A' n.kids[i].kids.length c')] w1 fun e w' => e = .returned (.string (bs (showN n.kids[i]))) ∧ Bel w1 w') :
    Calls Tryz.prog 52 #[nodeV n (.slice A n.kids.length c)] w fun e w' => ∃ v, e = .returned v ∧ w'.ownsRow w.heap.size 9 1 v n.kids.length (strs n.kids) ∧ Bel w w' := by
  have Hk := Lib.hid hk
  have Hpos := Lib.hid hpos
  clear hk hpos
  have hund := Tryz.underlying59
  obtain ⟨i0, hi0, hz0, hz1, hz2⟩ := info_parts infoStr
  unfold nodeV
  go_enter Tryz.func52, Tryz.ntmps52
  go_wp2
  go_loopw [3, 9] (fun v t wr => ∃ i : Nat, i ≤ n.kids.length ∧ t = .int .i64 i ∧ wr.ownsRow w.heap.size 9 1 v i (strs (n.kids.take i)) ∧ Bel w wr) (fun _ t _ => n.kids.length - (intOf t).toNat)
  case atStart => exact ⟨0, Nat.zero_le _, rfl, by rw [List.take_zero]; exact World.ownsRow_nil _ _ _ _, by (repeat (first | exact Below.refl _ _ | with_reducible assumption | refine bel_ext ?_ _ _ | refine bel_alloc ?_ _ | refine bel_drew ?_ | refine bel_drewN ?_ _ | refine bel_set ?_ (by simp; try omega) _))⟩
  case round =>
    obtain ⟨i, hi, rfl, hown, hb⟩ := hrel
    by_cases hlt : i < n.kids.length
    · have hl : (i : Int) < n.kids.length := by omega
      obtain ⟨rfl, hg⟩ := Hpos.out (by omega)
      obtain ⟨A', c', hs1, hs2⟩ := Hk.out i hlt
      have HC := Lib.hid hs2
      have hst := Lib.hid (strs_succ n.kids i hlt)
      have hcl := hs1.bel hb hg
      clear hs1 hs2
      generalize hkd : n.kids[i] = kd at *
      clear hkd
      generalize bs (showN kd) = S at *
      unfold nodeAt at hcl
      unfold nodeV at HC
      obtain ⟨q0, q1, q2, q3, q4, q5, q6, q7, q8, q9, q10, q11, q12⟩ := hcl
      have hbs := hb.size
      go_wp2_with (first
        | (go_at_call 30; refine (HC.out _ (by (repeat (first | exact Below.refl _ _ | with_reducible assumption | refine bel_ext ?_ _ _ | refine bel_alloc ?_ _ | refine bel_drew ?_ | refine bel_drewN ?_ _ | refine bel_set ?_ (by simp; try omega) _)))).mono ?_; rintro e' w' ⟨rfl, hb'⟩; have hown2 := ownsRow_bel (ownsRow_bel hown (bel1 _ _)) hb'; obtain ⟨d', o', rfl⟩ := hb'.ext; clear hb')
        | (at_builtin; refine wpList_append_own _ rfl _ _ 59 rfl w.heap.size 9 i0 (.string ⟨#[]⟩) 1 16 hund hi0 hz0 hz1 hz2 rfl (by decide) _ _ _ rfl (hown2.alloc _) ⟨_, 0, none⟩ 1 1 [.string S] rfl rfl ?c1 ?c2 ?c3 ?c4 ?c5 ?_))
      case c1 =>
        intro j u hj
        match j, hj with
        | 0, hj => simp at hj; subst hj; exact (World.cell?_alloc_at _ _ _ _ (by first | rfl | (rw [size_ext]; omega) | simp [go_sem])).trans rfl
      case c2 => intro u hu; simp at hu; subst hu; rfl
      case c3 => unfold maxLen; omega
      case c4 => omega
      case c5 => show _ ≤ (Array.push _ _).size; rw [Array.size_push, size_ext]; show _ ≤ (Array.push _ _).size + _ + 1; rw [Array.size_push]; omega
      · intro v' w1 hown' hgrow _
        have hge := ownBlock_ge hown
        have hb2 : Bel w w1 := Below.grown (w := _) (row := _) (by (repeat (first | exact Below.refl _ _ | with_reducible assumption | refine bel_ext ?_ _ _ | refine bel_alloc ?_ _ | refine bel_drew ?_ | refine bel_drewN ?_ _ | refine bel_set ?_ (by simp; try omega) _))) hgrow (by show _ ≤ (Array.push _ _).size; rw [Array.size_push, size_ext]; show _ ≤ (Array.push _ _).size + _ + 1; rw [Array.size_push]; omega) hge
        rw [← hst.out] at hown'
        clear hgrow hge hown hown2 hst q0 q1 q2 q3 q4 q5 q6 q7 q8 q9 q10 q11 q12 HC
        go_wp2
        go_roundw
        case rel => exact ⟨i + 1, by omega, by go_num, hown', hb2⟩
        case measure => simp [intOf]; omega
    · have hl : ¬ (i : Int) < n.kids.length := by omega
      obtain rfl : i = n.kids.length := by omega
      rw [List.take_of_length_le (Nat.le_refl _)] at hown
      go_wp2
      go_ret
      exact ⟨_, rfl, hown, by (repeat (first | exact Below.refl _ _ | with_reducible assumption | refine bel_ext ?_ _ _ | refine bel_alloc ?_ _ | refine bel_drew ?_ | refine bel_drewN ?_ _ | refine bel_set ?_ (by simp; try omega) _))⟩

end Go.Proofs.YtckalplhaggaoaaGreatDoor
