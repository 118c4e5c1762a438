/- Towards InputBack: what is shown as input is read back as it was, for every entry and every text; no condition. Part 10 of 28. -/
import Derived.Test.YtckalplhaggaoaaGreatDoorX09
set_option linter.unusedVariables false
set_option linter.unusedSimpArgs false
namespace Go.Proofs.YtckalplhaggaoaaGreatDoor
open Go.RowKit

theorem bel_mv {w W : World} (h : Bel w W) (p q : Nat) (hp : p < w.heap.size) : Bel (mv w p q) (mv W p q) := by
  refine ⟨h.os, h.tape, h.output, by rw [size_setCell, size_setCell]; exact h.size, fun k hk => ?_⟩
  rw [size_setCell] at hk
  by_cases e : k = p
  · subst e
    show (W.heap.modify k _)[k]? = (w.heap.modify k _)[k]?
    have := h.block k hk
    have hk2 : k < W.heap.size := Nat.lt_of_lt_of_le hk h.size
    rw [Array.getElem?_eq_getElem hk, Array.getElem?_eq_getElem hk2] at this
    rw [Array.getElem?_eq_getElem (by simpa using hk2), Array.getElem?_eq_getElem (by simpa using hk), Array.getElem_modify_self, Array.getElem_modify_self]
    injection this with this
    rw [this]
  · rw [block_setCell _ _ _ _ _ e, block_setCell _ _ _ _ _ e]; exact h.block k hk
theorem bel_pset {w W : World} {p q : Nat} (h : Bel (mv w p q) W) {b o : Nat} (hb : w.heap.size ≤ b) (v : Value) : Bel (mv w p q) (W.setCell ⟨b, o, none⟩ v) := h.setCell (by show (mv w p q).heap.size ≤ b; rw [size_setCell]; exact hb) v
theorem mv_mv (w : World) (p q q' : Nat) : mv (mv w p q) p q' = mv w p q' := by
  unfold mv World.setCell
  congr 1
  apply Array.ext_getElem?
  intro k
  simp only [Array.getElem?_modify]
  by_cases hk : p = k
  · simp only [hk, if_true, Option.map_map]
    congr 1
    funext o
    cases o <;> simp
  · simp only [if_neg hk]

/-- The ops of each rank. -/
def rk (k : Nat) : List ByteArray :=
  match k with
  | 0 => [⟨#[61]⟩, ⟨#[60, 62]⟩, ⟨#[60]⟩, ⟨#[62]⟩, ⟨#[60, 61]⟩, ⟨#[62, 61]⟩]
  | 1 => [⟨#[38]⟩]
  | 2 => [⟨#[43]⟩, ⟨#[45]⟩]
  | _ => [⟨#[42]⟩, ⟨#[47]⟩]
def ranksP (B : Nat) (v : Value) (w' : World) : Prop := ∃ b, v = .slice (some ⟨b, 0, none⟩) 4 4 ∧ (B ≤ b ∧ b < w'.heap.size) ∧ ∀ k, k < 4 → ∃ g, w'.cell? ⟨b, k, none⟩ = some (.slice (some ⟨g, 0, none⟩) (rk k).length (rk k).length) ∧ (B ≤ g ∧ g < w'.heap.size) ∧ ∀ j x, (rk k)[j]? = some x → w'.cell? ⟨g, j, none⟩ = some (.string x)

theorem hsz (w : World) (o : Obj) : (w.alloc o).heap.size = w.heap.size + 1 := Array.size_push _
theorem ranks_world (w : World) (A B C D : Array Value) (tA tB tC tD tE : TypeId) (n : Nat) (hn : n = w.heap.size) (E : Array Value)
    (hA : ∀ (j : Nat) (x : ByteArray), (rk 0)[j]? = some x → A[j]? = some (Value.string x)) (hB : ∀ (j : Nat) (x : ByteArray), (rk 1)[j]? = some x → B[j]? = some (Value.string x)) (hC : ∀ (j : Nat) (x : ByteArray), (rk 2)[j]? = some x → C[j]? = some (Value.string x)) (hD : ∀ (j : Nat) (x : ByteArray), (rk 3)[j]? = some x → D[j]? = some (Value.string x))
    (hE : E = #[.slice (some ⟨n, 0, none⟩) 6 6, .slice (some ⟨n + 1, 0, none⟩) 1 1, .slice (some ⟨n + 1 + 1, 0, none⟩) 2 2, .slice (some ⟨n + 1 + 1 + 1, 0, none⟩) 2 2]) :
    ranksP n (.slice (some ⟨n + 1 + 1 + 1 + 1, 0, none⟩) 4 4) (((((w.alloc (.cells A tA)).alloc (.cells B tB)).alloc (.cells C tC)).alloc (.cells D tD)).alloc (.cells E tE)) := by
  subst hn hE
  refine ⟨_, rfl, ⟨by omega, by simp only [hsz]; omega⟩, fun k hk => ?_⟩
  match k, hk with
  | 0, _ =>
    refine ⟨w.heap.size, (World.cell?_alloc_at _ _ _ _ (by simp only [hsz])).trans rfl, ⟨by omega, by simp only [hsz]; omega⟩, fun j x hj => ?_⟩
    rw [World.cell?_alloc_past _ _ _ (by simp only [hsz]; omega), World.cell?_alloc_past _ _ _ (by simp only [hsz]; omega), World.cell?_alloc_past _ _ _ (by simp only [hsz]; omega), World.cell?_alloc_past _ _ _ (by simp only [hsz]; omega), World.cell?_alloc_at _ _ _ _ rfl]
    exact hA j x hj
  | 1, _ =>
    refine ⟨w.heap.size + 1, (World.cell?_alloc_at _ _ _ _ (by simp only [hsz])).trans rfl, ⟨by omega, by simp only [hsz]; omega⟩, fun j x hj => ?_⟩
    rw [World.cell?_alloc_past _ _ _ (by simp only [hsz]; omega), World.cell?_alloc_past _ _ _ (by simp only [hsz]; omega), World.cell?_alloc_past _ _ _ (by simp only [hsz]; omega), World.cell?_alloc_at _ _ _ _ (by simp only [hsz])]
    exact hB j x hj
  | 2, _ =>
    refine ⟨w.heap.size + 1 + 1, (World.cell?_alloc_at _ _ _ _ (by simp only [hsz])).trans rfl, ⟨by omega, by simp only [hsz]; omega⟩, fun j x hj => ?_⟩
    rw [World.cell?_alloc_past _ _ _ (by simp only [hsz]; omega), World.cell?_alloc_past _ _ _ (by simp only [hsz]; omega), World.cell?_alloc_at _ _ _ _ (by simp only [hsz])]
    exact hC j x hj
  | 3, _ =>
    refine ⟨w.heap.size + 1 + 1 + 1, (World.cell?_alloc_at _ _ _ _ (by simp only [hsz])).trans rfl, ⟨by omega, by simp only [hsz]; omega⟩, fun j x hj => ?_⟩
    rw [World.cell?_alloc_past _ _ _ (by simp only [hsz]; omega), World.cell?_alloc_at _ _ _ _ (by simp only [hsz])]
    exact hD j x hj

theorem strs_at (l : List ByteArray) (j : Nat) (x : ByteArray) (h : l[j]? = some x) : (l.map Value.string).toArray[j]? = some (.string x) := by
  simp [h]

set_option maxHeartbeats 800000 in
set_option maxRecDepth 100000 in
theorem parse_ranks (w : World) : Calls Tryz.prog 59 #[] w fun e w' => ∃ v, e = .returned v ∧ ranksP w.heap.size v w' ∧ Bel w w' := by
  go_enter Tryz.func59, Tryz.ntmps59
  go_wp2
  go_ret
  exact ⟨_, rfl, ranks_world w _ _ _ _ _ _ _ _ _ w.heap.size rfl _ (fun j x h => strs_at _ j x h) (fun j x h => strs_at _ j x h) (fun j x h => strs_at _ j x h) (fun j x h => strs_at _ j x h) rfl, by (repeat (first | exact Below.refl _ _ | with_reducible assumption | refine bel_ext ?_ _ _ | refine bel_alloc ?_ _ | refine bel_drew ?_ | refine bel_drewN ?_ _ | refine bel_set ?_ (by simp; try omega) _))⟩

end Go.Proofs.YtckalplhaggaoaaGreatDoor

namespace Go.Proofs.YtckalplhaggaoaaGreatDoor
open Go.RowKit

/-- The parsed node's kids, in blocks from B on. -/
def NodeR (B : Nat) (n : GNode) (v : Value) (w' : World) : Prop := ∃ A c, v = .slice A n.kids.length c ∧ RdN (fun b => B ≤ b) w' n v
/-- The method f at the parser p, at token q, reads the node n and stands at q' then. -/
def Reads (f : FuncId) (args : Array Value) (p q' : Nat) (n : GNode) (w : World) : Prop :=
  Calls Tryz.prog f args w fun e w' => ∃ v, e = .returned (.tuple #[nodeV n v, .bool true]) ∧ NodeR w.heap.size n v w' ∧ Bel (mv w p q') w'

theorem RdN.past {B : Nat} {w w' : World} {n : GNode} {s : Value} (h : RdN (fun b => B ≤ b) w n s) (hk : ∀ b, B ≤ b → b < w.heap.size → w'.heap[b]? = w.heap[b]?) (hs : w.heap.size ≤ w'.heap.size) : RdN (fun b => B ≤ b) w' n s := RdN.keep hk hs n s h

theorem ext_at (w : World) (d : Nat) (os : Array Obj) (b : Nat) (h : w.heap.size ≤ b) : (ext w d os).heap[b]? = os[b - w.heap.size]? := by
  simp only [ext, Array.getElem?_append]
  rw [if_neg (by omega)]
theorem mv_alloc (w : World) (o : Obj) (p q : Nat) (h : p < w.heap.size) : mv (w.alloc o) p q = (mv w p q).alloc o := by
  unfold mv World.setCell World.alloc
  congr 1
  apply Array.ext_getElem?
  intro k
  simp only [Array.getElem?_modify, Array.getElem?_push, Array.size_modify]
  by_cases hk : k = w.heap.size
  · have : p ≠ k := by omega
    simp [hk, this]; omega
  · simp [hk]
theorem mv_ext (w : World) (d : Nat) (os : Array Obj) (p q : Nat) (h : p < w.heap.size) : mv (ext w d os) p q = ext (mv w p q) d os := set_ext _ _ _ _ _ _ h
theorem RdN.fin2 {B B' : Nat} {X Y : World} {d d' : Nat} {os os' : Array Obj} {n : GNode} {s : Value} (hr : RdN (fun b => B ≤ b) (ext X d os) n s) (hXY : Y.heap.size = X.heap.size) (hB : X.heap.size ≤ B) (hB' : B' ≤ B) : RdN (fun b => B' ≤ b) (ext Y d' (os ++ os')) n s := by
  refine RdN.mono (Z := fun b => B ≤ b) (fun b h => Nat.le_trans hB' h) n s (RdN.keep (fun b hb hlt => ?_) ?_ n s hr)
  · have h1 : X.heap.size ≤ b := Nat.le_trans hB hb
    rw [ext_at _ _ _ _ (by omega), ext_at _ _ _ _ h1, hXY]
    rw [size_ext] at hlt
    rw [Array.getElem?_append_left (by omega)]
  · rw [size_ext, size_ext, Array.size_append, hXY]; omega
theorem RdN.fin {B B' : Nat} {X Y : World} {d d' : Nat} {os : Array Obj} {n : GNode} {s : Value} (hr : RdN (fun b => B ≤ b) (ext X d os) n s) (hXY : Y.heap.size = X.heap.size) (hB : X.heap.size ≤ B) (hB' : B' ≤ B) : RdN (fun b => B' ≤ b) (ext Y d' os) n s := by
  have := RdN.fin2 (os' := #[]) (d' := d') hr hXY hB hB'
  rwa [Array.append_empty] at this

theorem RdN.build {B : Nat} {W : World} {g : Nat} (n : GNode) (hok : okTop n) (c : Nat) (hc : n.kids.length ≤ c) (hg : B ≤ g) (hgs : g < W.heap.size) (hl : RdL (fun b => B ≤ b) W g n.kids 0) : RdN (fun b => B ≤ b) W n (.slice (some ⟨g, 0, none⟩) n.kids.length c) := by
  obtain ⟨a1, a2, a3, a4, a5, a6, kids⟩ := n
  unfold RdN
  exact ⟨hok, _, c, rfl, hc, fun _ => ⟨g, 0, rfl, hg, hgs, hl⟩⟩
theorem RdL.one {Z : Nat → Prop} {W : World} {g : Nat} {n : GNode} {s : Value} (h : RdN Z W n s) (ha : nodeAt W g 0 n s) : RdL Z W g [n] 0 := by
  unfold RdL
  exact ⟨⟨s, h, ha⟩, by unfold RdL; trivial⟩
theorem RdL.at13 {Z : Nat → Prop} {W : World} {g : Nat} {m : GNode} {t : Value} (h : RdN Z W m t) (ha : nodeAt W g 13 m t) : RdL Z W g [m] (0 + 13) := by
  unfold RdL
  exact ⟨⟨t, h, ha⟩, by unfold RdL; trivial⟩
theorem RdL.two {Z : Nat → Prop} {W : World} {g : Nat} {n m : GNode} {s t : Value} (h : RdN Z W n s) (ha : nodeAt W g 0 n s) (h2 : RdN Z W m t) (ha2 : nodeAt W g 13 m t) : RdL Z W g [n, m] 0 := by
  unfold RdL
  exact ⟨⟨s, h, ha⟩, RdL.at13 h2 ha2⟩
theorem nodeAt_last (X : World) (n : GNode) (s : Value) (T : TypeId) (g : Nat) (hg : g = X.heap.size) : nodeAt (X.alloc (.cells #[.int .i64 n.kind, .string n.op, .string n.name, .int .i64 n.val.kind, .int .i64 n.val.n, .string n.val.s, .string n.cell.sheet, .int .i64 n.cell.col, .int .i64 n.cell.row, .string n.to.sheet, .int .i64 n.to.col, .int .i64 n.to.row, s] T)) g 0 n s := by
  unfold nodeAt
  refine ⟨?_, ?_, ?_, ?_, ?_, ?_, ?_, ?_, ?_, ?_, ?_, ?_, ?_⟩ <;> exact (World.cell?_alloc_at _ _ _ _ hg).trans rfl
theorem nodeAt_two (X : World) (n m : GNode) (s t : Value) (T : TypeId) (g : Nat) (hg : g = X.heap.size) : nodeAt (X.alloc (.cells #[.int .i64 n.kind, .string n.op, .string n.name, .int .i64 n.val.kind, .int .i64 n.val.n, .string n.val.s, .string n.cell.sheet, .int .i64 n.cell.col, .int .i64 n.cell.row, .string n.to.sheet, .int .i64 n.to.col, .int .i64 n.to.row, s, .int .i64 m.kind, .string m.op, .string m.name, .int .i64 m.val.kind, .int .i64 m.val.n, .string m.val.s, .string m.cell.sheet, .int .i64 m.cell.col, .int .i64 m.cell.row, .string m.to.sheet, .int .i64 m.to.col, .int .i64 m.to.row, t] T)) g 0 n s ∧
    nodeAt (X.alloc (.cells #[.int .i64 n.kind, .string n.op, .string n.name, .int .i64 n.val.kind, .int .i64 n.val.n, .string n.val.s, .string n.cell.sheet, .int .i64 n.cell.col, .int .i64 n.cell.row, .string n.to.sheet, .int .i64 n.to.col, .int .i64 n.to.row, s, .int .i64 m.kind, .string m.op, .string m.name, .int .i64 m.val.kind, .int .i64 m.val.n, .string m.val.s, .string m.cell.sheet, .int .i64 m.cell.col, .int .i64 m.cell.row, .string m.to.sheet, .int .i64 m.to.col, .int .i64 m.to.row, t] T)) g 13 m t := by
  unfold nodeAt
  refine ⟨⟨?_, ?_, ?_, ?_, ?_, ?_, ?_, ?_, ?_, ?_, ?_, ?_, ?_⟩, ?_, ?_, ?_, ?_, ?_, ?_, ?_, ?_, ?_, ?_, ?_, ?_, ?_⟩ <;> exact (World.cell?_alloc_at _ _ _ _ hg).trans rfl

variable {w : World} {p g cap : Nat} {fin bad : Int} {sheet : ByteArray} {ts : List (Int × Int × Str)} {q : Nat}

set_option maxHeartbeats 1600000 in
set_option maxRecDepth 100000 in
theorem parse_minus_one (h : PS w p g cap fin sheet bad ts q) (hq : q ≤ 1000) (n : GNode) (q' : Nat) (hno : (tkKind ts q == 5 && (tkText ts q == [45])) = false)
    (H : ∀ w1, Bel w w1 → Reads 89 #[.pointer (some ⟨p, 0, none⟩)] p q' n w1) :
    Reads 60 #[.pointer (some ⟨p, 0, none⟩)] p q' n w := by
  have HS := Lib.hid (fun w1 (b : Bel w w1) => parse_sign (h.bel b) 0 (by omega) hq ⟨#[45]⟩)
  have e45 : (⟨#[45]⟩ : ByteArray).toList = [45] := by rw [Lib.toList_data]
  rw [Nat.add_zero, e45, hno] at HS
  have HO := Lib.hid H
  have hp := h.plt
  clear H h hno
  unfold Reads at *
  go_enter Tryz.func60, Tryz.ntmps60
  go_wp2_with (go_at_call 88; refine (HS.out _ (by (repeat (first | exact Below.refl _ _ | with_reducible assumption | refine bel_ext ?_ _ _ | refine bel_alloc ?_ _ | refine bel_drew ?_ | refine bel_drewN ?_ _ | refine bel_set ?_ (by simp; try omega) _)))).mono ?_; rintro e' w' ⟨rfl, hb'⟩; obtain ⟨d', o', rfl⟩ := hb'.ext; clear hb')
  refine (HO.out _ (by (repeat (first | exact Below.refl _ _ | with_reducible assumption | refine bel_ext ?_ _ _ | refine bel_alloc ?_ _ | refine bel_drew ?_ | refine bel_drewN ?_ _ | refine bel_set ?_ (by simp; try omega) _)))).mono ?_
  rintro e' w' ⟨v, rfl, ⟨A, c, rfl, hr⟩, hb'⟩
  obtain ⟨d2, o2, rfl⟩ := hb'.ext
  rw [mv_ext _ _ _ _ _ (by rw [hsz]; omega), ext_ext] at hr
  unfold nodeV
  go_wp2
  exact bodyPost_ret (v := .tuple #[nodeV n (.slice A n.kids.length c), .bool true]) (by unfold nodeV; simp [results, Tryz.results60, go_sem]) rfl
    ⟨_, rfl, ⟨A, c, rfl, RdN.fin hr (by simp only [hsz, size_setCell]) (by simp only [hsz, size_setCell, size_ext]; omega) (by simp only [hsz, size_setCell, size_ext]; omega)⟩, by (repeat (first | exact Below.refl _ _ | with_reducible assumption | refine bel_ext ?_ _ _ | refine bel_alloc ?_ _ | refine bel_drew ?_ | refine bel_drewN ?_ _ | refine bel_set ?_ (by simp; try omega) _))⟩

def neg1 (n : GNode) : GNode := { GNode.zero with kind := 4, op := ⟨#[45]⟩, kids := [n] }
theorem neg1_ok (n : GNode) : okTop (neg1 n) := by
  unfold okTop okVal okCell neg1 GNode.zero GVal.zero GCell.zero
  simp
  exact ⟨by decide, by decide⟩
set_option maxHeartbeats 1600000 in
set_option maxRecDepth 100000 in
theorem parse_minus_neg (h : PS w p g cap fin sheet bad ts q) (hq : q ≤ 1000) (hql : q < ts.length) (n : GNode) (hok : okTop n) (q' : Nat) (hyes : (tkKind ts q == 5 && (tkText ts q == [45])) = true)
    (H : ∀ w1, Bel (mv w p (q + 1)) w1 → Reads 60 #[.pointer (some ⟨p, 0, none⟩)] p q' n w1) :
    Reads 60 #[.pointer (some ⟨p, 0, none⟩)] p q' (neg1 n) w := by
  have HS := Lib.hid (fun w1 (b : Bel w w1) => parse_sign (h.bel b) 0 (by omega) hq ⟨#[45]⟩)
  have e45 : (⟨#[45]⟩ : ByteArray).toList = [45] := by rw [Lib.toList_data]
  rw [Nat.add_zero, e45, hyes] at HS
  have HT := Lib.hid (fun w1 (b : Bel w w1) => parse_take (h.bel b) hql)
  have HO := Lib.hid H
  have hp := h.plt
  clear H h hyes
  unfold Reads at *
  go_enter Tryz.func60, Tryz.ntmps60
  go_wp2_with (first
    | (go_at_call 88; refine (HS.out _ (by (repeat (first | exact Below.refl _ _ | with_reducible assumption | refine bel_ext ?_ _ _ | refine bel_alloc ?_ _ | refine bel_drew ?_ | refine bel_drewN ?_ _ | refine bel_set ?_ (by simp; try omega) _)))).mono ?_; rintro e' w' ⟨rfl, hb'⟩; obtain ⟨d1, o1, rfl⟩ := hb'.ext; clear hb')
    | (go_at_call 63; refine (HT.out _ (by (repeat (first | exact Below.refl _ _ | with_reducible assumption | refine bel_ext ?_ _ _ | refine bel_alloc ?_ _ | refine bel_drew ?_ | refine bel_drewN ?_ _ | refine bel_set ?_ (by simp; try omega) _)))).mono ?_; rintro e' w' ⟨rfl, hb'⟩; obtain ⟨d', o', rfl⟩ := hb'.ext; clear hb'))
  have e1 : (q : Int) + 1 = ((q + 1 : Nat) : Int) := by omega
  rw [e1]
  refine (HO.out _ (by (repeat (first | exact Below.refl _ _ | with_reducible assumption | refine bel_ext ?_ _ _ | refine bel_alloc ?_ _ | refine bel_drew ?_ | refine bel_drewN ?_ _ | refine bel_set ?_ (by simp; try omega) _)))).mono ?_
  rintro e' w' ⟨v, rfl, ⟨A, c, rfl, hr⟩, hb'⟩
  obtain ⟨d2, o2, rfl⟩ := hb'.ext
  clear hb'
  rw [mv_ext _ _ _ _ _ (by rw [hsz, size_setCell]; omega), mv_alloc _ _ _ _ (by rw [size_setCell]; exact hp), mv_mv, ext_ext, Array.append_assoc] at hr ⊢
  unfold nodeV
  go_wp2
  refine bodyPost_ret (v := .tuple #[nodeV (neg1 n) (.slice (some ⟨w.heap.size + 1 + (o1.size + (o'.size + o2.size)) + 1, 0, none⟩) 1 1), .bool true]) (by unfold nodeV neg1; simp [results, Tryz.results60, go_sem, GNode.zero, GVal.zero, GCell.zero]) rfl ?_
  generalize hX : ext _ _ _ = X
  have hn : w.heap.size + 1 + (o1.size + (o'.size + o2.size)) = X.heap.size := by rw [← hX]; simp only [hsz, size_ext, size_setCell, Array.size_append]
  have hrX : RdN (fun b => w.heap.size ≤ b) X n (.slice A n.kids.length c) := by
    rw [← hX]
    exact RdN.fin hr (by simp only [hsz, size_setCell]) (by simp only [hsz, size_setCell, size_ext]; omega) (by simp only [hsz, size_setCell, size_ext]; omega)
  have hbX : Bel (mv w p q') X := by rw [← hX]; (repeat (first | exact Below.refl _ _ | with_reducible assumption | refine bel_ext ?_ _ _ | refine bel_alloc ?_ _ | refine bel_drew ?_ | refine bel_drewN ?_ _ | refine bel_set ?_ (by simp; try omega) _))
  have hwX : w.heap.size ≤ X.heap.size := by omega
  clear hX hr HS HT HO
  rw [hn]
  exact ⟨_, rfl, ⟨_, 1, rfl, RdN.build (neg1 n) (neg1_ok n) 1 (Nat.le_refl _) (by omega) (by simp only [hsz]; omega)
      (RdL.one (hrX.bel (bel_alloc (bel_alloc (Below.refl _ _) _) _)) (nodeAt_last _ n _ _ _ (by rw [hsz])))⟩, bel_alloc (bel_alloc hbX _) _⟩

end Go.Proofs.YtckalplhaggaoaaGreatDoor
