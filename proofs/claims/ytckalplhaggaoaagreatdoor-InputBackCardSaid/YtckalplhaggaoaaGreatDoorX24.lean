/- Towards InputBack: what is shown as input is read back as it was, for every entry and every text; no condition. Part 24 of 28. -/
import Derived.Test.YtckalplhaggaoaaGreatDoorX21
import Derived.Test.YtckalplhaggaoaaGreatDoorX23
import Derived.Test.YtckalplhaggaoaaGreatDoorX05
import Derived.Test.YtckalplhaggaoaaGreatDoorX20
import Derived.Laws.Tables
import Derived.Laws.Rows
set_option linter.unusedVariables false
set_option linter.unusedSimpArgs false
namespace Go.Proofs.YtckalplhaggaoaaGreatDoor
open Go.RowKit

def entV (x : GEntry) (s : Value) : Value := .agg #[.string x.cell.sheet, .int .i64 x.cell.col, .int .i64 x.cell.row, .bool x.formula, .int .i64 x.node.kind, .string x.node.op, .string x.node.name, .int .i64 x.node.val.kind, .int .i64 x.node.val.n, .string x.node.val.s, .string x.node.cell.sheet, .int .i64 x.node.cell.col, .int .i64 x.node.cell.row, .string x.node.to.sheet, .int .i64 x.node.to.col, .int .i64 x.node.to.row, s, .int .i64 x.val.kind, .int .i64 x.val.n, .string x.val.s]

theorem eq_show (l : Str) : (⟨#[61]⟩ : ByteArray) ++ bs l = bs (61 :: l) := by
  apply toList_inj; rw [Lib.toList_data, Lib.toList_data]; simp [bs]
theorem quote_show (s : ByteArray) : (⟨#[39]⟩ : ByteArray) ++ s = bs (39 :: s.data.toList) := by
  apply toList_inj; rw [Lib.toList_data, Lib.toList_data]; simp [bs]

set_option maxHeartbeats 4000000 in
set_option maxRecDepth 100000 in
theorem input_Show_formula (cell : GCell) (n : GNode) (v : GVal) (A : Option Addr) (k c : Nat) (Z : Nat → Prop) (w : World) (hs : nsz n ≤ 400) (hR : rightR n = true) (hd : depthN n ≤ 20) (hr : RdN Z w n (.slice A k c)) (hG : Gl w) :
    Calls Tryz.prog 9 #[entV ⟨cell, true, n, v⟩ (.slice A k c)] w fun e w' => e = .returned (.string (bs (61 :: showN n))) ∧ Bel w w' := by
  have HP := Lib.hid (fun w1 (b : Bel w w1) => printer_Print n A k c Z w1 hs hR hd (hr.bel b) (hG.bel b))
  have hl := showN_len (nsz n) n (Nat.le_refl _) hR (hr.ints)
  have hz : (bs (showN n)).size ≤ 200000 := by rw [bs_size]; omega
  have hv := Lib.hid (eq_show (showN n))
  clear hr hG hR hd hs hl
  unfold nodeV at HP
  unfold entV
  go_enter Tryz.func9, Tryz.ntmps9
  go_wp2_with (go_at_call 18; refine (HP.out _ (by (repeat (first | exact Below.refl _ _ | with_reducible assumption | refine bel_ext ?_ _ _ | refine bel_alloc ?_ _ | refine bel_drew ?_ | refine bel_drewN ?_ _ | refine bel_set ?_ (by simp; try omega) _)))).mono ?_; rintro e' w' ⟨rfl, hb'⟩; obtain ⟨d1, o1, rfl⟩ := hb'.ext; clear hb')
  go_ret
  exact ⟨ret_str hv.out, by (repeat (first | exact Below.refl _ _ | with_reducible assumption | refine bel_ext ?_ _ _ | refine bel_alloc ?_ _ | refine bel_drew ?_ | refine bel_drewN ?_ _ | refine bel_set ?_ (by simp; try omega) _))⟩

/-- A value that is shown as it is. -/
theorem input_Show_plain (cell : GCell) (n : GNode) (k m : Int) (s : ByteArray) (t : Value) (hk : (k == 2) = false) (h0 : -9223372036854775808 ≤ m) (h1 : m ≤ 9223372036854775807) (w : World) (hG : Gl w) :
    Calls Tryz.prog 9 #[entV ⟨cell, false, n, ⟨k, m, s⟩⟩ t] w fun e w' => e = .returned (.string (showV ⟨k, m, s⟩)) ∧ Bel w w' := by
  have HV := Lib.hid (fun w1 (b : Bel w w1) => value_Show ⟨k, m, s⟩ w1 (hG.bel b) h0 h1)
  clear hG h0 h1
  unfold entV
  go_enter Tryz.func9, Tryz.ntmps9
  go_wp2_with (go_at_call 19; refine (HV.out _ (by (repeat (first | exact Below.refl _ _ | with_reducible assumption | refine bel_ext ?_ _ _ | refine bel_alloc ?_ _ | refine bel_drew ?_ | refine bel_drewN ?_ _ | refine bel_set ?_ (by simp; try omega) _)))).mono ?_; rintro e' w' ⟨rfl, hb'⟩; obtain ⟨d1, o1, rfl⟩ := hb'.ext; clear hb')
  refine wp_region_bw (by kernel_rfl) (by kernel_rfl) ?_
  repeat (go_big_quiet_step (fail))
  refine wpQuiet_nil ?_
  intro _ hw'
  obtain ⟨pq, hw''⟩ := hw'
  subst hw''
  obtain ⟨d2, o2, hpq⟩ := pq.h.ext
  rw [hpq]
  clear hpq
  go_wp2
  go_ret
  exact ⟨rfl, by (repeat (first | exact Below.refl _ _ | with_reducible assumption | refine bel_ext ?_ _ _ | refine bel_alloc ?_ _ | refine bel_drew ?_ | refine bel_drewN ?_ _ | refine bel_set ?_ (by simp; try omega) _))⟩

set_option maxHeartbeats 4000000 in
set_option maxRecDepth 100000 in
/-- A text. -/
theorem input_Show_text (cell : GCell) (n : GNode) (s : ByteArray) (hs : s.size ≤ 199) (t : Value) (w : World) (hG : Gl w) :
    Calls Tryz.prog 9 #[entV ⟨cell, false, n, ⟨2, 0, s⟩⟩ t] w fun e w' => e = .returned (.string (bs (showI ⟨2, 0, s⟩))) ∧ Bel w w' := by
  have HV := Lib.hid (fun w1 (b : Bel w w1) => value_Show ⟨2, 0, s⟩ w1 (hG.bel b) (by show (-9223372036854775808 : Int) ≤ 0; decide) (by show (0 : Int) ≤ _; decide))
  have hsv : showV ⟨2, 0, s⟩ = s := by
    have hr : rightV ⟨2, 0, s⟩ = true := by unfold rightV; simp; omega
    unfold showV; rw [hr]; rfl
  rw [hsv] at HV
  have HP := Lib.hid (fun w1 => Tryz.strings_HasPrefix s ⟨#[61]⟩ w1)
  have HC := Lib.hid (fun w1 (b : Bel w w1) => input_constant s (by omega) w1 (hG.bel b))
  have hq : quotedI ⟨2, 0, s⟩ = (Lib.hasPrefix s.data.toList [61] || !(eqVal (constI s.data.toList) ⟨2, 0, s⟩)) := rfl
  have hp : Lib.hasPrefix s.data.toList (⟨#[61]⟩ : ByteArray).data.toList = Lib.hasPrefix s.data.toList [61] := rfl
  rw [hp] at HP
  have hHB : ∀ (X : World) (pp : BW X), Bel w X → Bel w pp.w' := fun X pp hb => hb.then_ pp.h
  have hv1 : Hid (quotedI ⟨2, 0, s⟩ = true → (⟨#[39]⟩ : ByteArray) ++ s = bs (showI ⟨2, 0, s⟩)) := fun h => by unfold showI; rw [if_pos h]; exact quote_show s
  have hv2 : Hid (quotedI ⟨2, 0, s⟩ = false → s = bs (showI ⟨2, 0, s⟩)) := fun h => by unfold showI; rw [h, hsv]; exact (bs_back s).symm
  unfold valV at HC
  generalize hK : constI s.data.toList = K at HC hq
  obtain ⟨k1, k2, k3⟩ := K
  clear hK
  generalize hb1 : Lib.hasPrefix s.data.toList [61] = b1 at *
  clear hG hsv hp hb1
  unfold entV
  cases b1 with
  | true =>
    have hqq : Hid (quotedI ⟨2, 0, s⟩ = true) := by show _ = _; rw [hq]; rfl
    clear hq
    go_enter Tryz.func9, Tryz.ntmps9
    go_wp2_with (go_at_call 19; refine (HV.out _ (by (repeat (first | exact Below.refl _ _ | with_reducible assumption | refine bel_ext ?_ _ _ | refine bel_alloc ?_ _ | refine bel_drew ?_ | refine bel_drewN ?_ _ | refine bel_set ?_ (by simp; try omega) _)))).mono ?_; rintro e' w' ⟨rfl, hb'⟩; obtain ⟨d1, o1, rfl⟩ := hb'.ext; clear hb')
    refine wp_region_bw (by kernel_rfl) (by kernel_rfl) ?_
    repeat (go_big_quiet_step (first
      | (go_at_call 20; exact Calls.bw ((HP.out _).mono fun e w' ⟨he, hw⟩ => ⟨he, by rw [hw]; exact Below.refl _ _⟩))))
    refine wpQuiet_nil ?_
    intro _ hw'
    obtain ⟨pq, hw''⟩ := hw'
    subst hw''
    obtain ⟨d2, o2, hpq⟩ := pq.h.ext
    rw [hpq]
    clear hpq
    go_wp2
    go_ret
    exact ⟨ret_str (hv1.out hqq.out), by (repeat (first | exact Below.refl _ _ | with_reducible assumption | refine bel_ext ?_ _ _ | refine bel_alloc ?_ _ | refine bel_drew ?_ | refine bel_drewN ?_ _ | refine bel_set ?_ (by simp; try omega) _))⟩
  | false =>
    generalize hb2 : eqVal ⟨k1, k2, k3⟩ ⟨2, 0, s⟩ = b2 at *
    have hb2' : eqVal ⟨k1, k2, k3⟩ ⟨2, 0, s⟩ = b2 := hb2
    clear hb2
    cases b2 with
    | true =>
      have hqq : Hid (quotedI ⟨2, 0, s⟩ = false) := by show _ = _; rw [hq]; rfl
      clear hq
      go_enter Tryz.func9, Tryz.ntmps9
      go_wp2_with (go_at_call 19; refine (HV.out _ (by (repeat (first | exact Below.refl _ _ | with_reducible assumption | refine bel_ext ?_ _ _ | refine bel_alloc ?_ _ | refine bel_drew ?_ | refine bel_drewN ?_ _ | refine bel_set ?_ (by simp; try omega) _)))).mono ?_; rintro e' w' ⟨rfl, hb'⟩; obtain ⟨d1, o1, rfl⟩ := hb'.ext; clear hb')
      refine wp_region_bw (by kernel_rfl) (by kernel_rfl) ?_
      repeat (go_big_quiet_step (first
        | (go_at_call 20; exact Calls.bw ((HP.out _).mono fun e w' ⟨he, hw⟩ => ⟨he, by rw [hw]; exact Below.refl _ _⟩))
        | (go_at_call 21; exact Calls.bw (HC.out _ (hHB _ _ (by (repeat (first | exact Below.refl _ _ | with_reducible assumption | refine bel_ext ?_ _ _ | refine bel_alloc ?_ _ | refine bel_drew ?_ | refine bel_drewN ?_ _ | refine bel_set ?_ (by simp; try omega) _))))))))
      refine wpQuiet_nil ?_
      intro _ hw'
      obtain ⟨pq, hw''⟩ := hw'
      subst hw''
      obtain ⟨d2, o2, hpq⟩ := pq.h.ext
      rw [hpq]
      clear hpq
      go_wp2
      go_ret
      exact ⟨ret_str (hv2.out hqq.out), by (repeat (first | exact Below.refl _ _ | with_reducible assumption | refine bel_ext ?_ _ _ | refine bel_alloc ?_ _ | refine bel_drew ?_ | refine bel_drewN ?_ _ | refine bel_set ?_ (by simp; try omega) _))⟩
    | false =>
      have hqq : Hid (quotedI ⟨2, 0, s⟩ = true) := by show _ = _; rw [hq]; rfl
      clear hq
      go_enter Tryz.func9, Tryz.ntmps9
      go_wp2_with (go_at_call 19; refine (HV.out _ (by (repeat (first | exact Below.refl _ _ | with_reducible assumption | refine bel_ext ?_ _ _ | refine bel_alloc ?_ _ | refine bel_drew ?_ | refine bel_drewN ?_ _ | refine bel_set ?_ (by simp; try omega) _)))).mono ?_; rintro e' w' ⟨rfl, hb'⟩; obtain ⟨d1, o1, rfl⟩ := hb'.ext; clear hb')
      refine wp_region_bw (by kernel_rfl) (by kernel_rfl) ?_
      repeat (go_big_quiet_step (first
        | (go_at_call 20; exact Calls.bw ((HP.out _).mono fun e w' ⟨he, hw⟩ => ⟨he, by rw [hw]; exact Below.refl _ _⟩))
        | (go_at_call 21; exact Calls.bw (HC.out _ (hHB _ _ (by (repeat (first | exact Below.refl _ _ | with_reducible assumption | refine bel_ext ?_ _ _ | refine bel_alloc ?_ _ | refine bel_drew ?_ | refine bel_drewN ?_ _ | refine bel_set ?_ (by simp; try omega) _))))))))
      refine wpQuiet_nil ?_
      intro _ hw'
      obtain ⟨pq, hw''⟩ := hw'
      subst hw''
      obtain ⟨d2, o2, hpq⟩ := pq.h.ext
      rw [hpq]
      clear hpq
      go_wp2
      go_ret
      exact ⟨ret_str (hv1.out hqq.out), by (repeat (first | exact Below.refl _ _ | with_reducible assumption | refine bel_ext ?_ _ _ | refine bel_alloc ?_ _ | refine bel_drew ?_ | refine bel_drewN ?_ _ | refine bel_set ?_ (by simp; try omega) _))⟩

end Go.Proofs.YtckalplhaggaoaaGreatDoor

namespace Go.Proofs.YtckalplhaggaoaaGreatDoor
open Go.RowKit

def zero20 : List Value := [.string ⟨#[]⟩, .int .i64 0, .int .i64 0, .bool false, .int .i64 0, .string ⟨#[]⟩, .string ⟨#[]⟩, .int .i64 0, .int .i64 0, .string ⟨#[]⟩, .string ⟨#[]⟩, .int .i64 0, .int .i64 0, .string ⟨#[]⟩, .int .i64 0, .int .i64 0, .slice none 0 0, .int .i64 0, .int .i64 0, .string ⟨#[]⟩]
theorem infoEnt : (Tryz.prog.info? 30).map (·.size) = some 20 := by kernel_rfl
@[go_sem] theorem setRow_alloc (w : World) (old cs : Array Value) (T : TypeId) (n : Nat) (h : n = w.heap.size) : (w.alloc (.cells old T)).setRow n cs = w.alloc (.cells cs T) := by
  subst h
  unfold World.setRow World.alloc
  congr 1
  apply Array.ext_getElem?
  intro k
  simp only [Array.getElem?_modify, Array.getElem?_push, Array.size_modify]
  by_cases hk : w.heap.size = k
  · subst hk; simp
  · have : ¬ k = w.heap.size := fun e => hk e.symm
    simp [hk, this]
@[go_sem] theorem setRow_ext (w : World) (d : Nat) (os : Array Obj) (g : Nat) (cs : Array Value) (h : g < w.heap.size) : (ext w d os).setRow g cs = ext (w.setRow g cs) d os := by
  unfold ext World.setRow
  congr 1
  apply Array.ext_getElem?
  intro k
  simp only [Array.getElem?_modify, Array.getElem?_append, Array.size_modify]
  by_cases hk : k < w.heap.size
  · simp [hk]
  · have : g ≠ k := by omega
    simp [hk, this]

theorem setRow_alloc_old (w : World) (o : Obj) (g : Nat) (cs : Array Value) (h : g < w.heap.size) : (w.alloc o).setRow g cs = (w.setRow g cs).alloc o := by
  unfold World.setRow World.alloc
  congr 1
  apply Array.ext_getElem?
  intro k
  simp only [Array.getElem?_modify, Array.getElem?_push, Array.size_modify]
  by_cases hk : k = w.heap.size
  · have : ¬ g = k := by omega
    simp [hk, this]; omega
  · simp [hk]
theorem load_entry (w : World) (b : Nat) (cs : Array Value) (hg : w.heap[b]? = some (.cells cs 30 (0, 0))) (hs : some 20 = some cs.size) : (loadVar 30 ⟨b, 0, none⟩).run Tryz.prog w = .ok (.agg cs) w :=
  run_loadVar_row w b 30 30 cs (0, 0) _ hg Tryz.underlying30 rfl (infoEnt.trans hs)
theorem results3 {P : Program} {fn : Func} {tmps : Array Value} {w : World} {a i j : Tmp} {T : TypeId} {x : Addr} {v : Value} (hr : fn.results = #[.cell a T, .tmp i, .tmp j]) (ha : tmps.getD a undef = .pointer (some x)) (hL : (loadVar T x).run P w = .ok v w) :
    (results fn tmps).run P w = .ok (.tuple #[v, tmps.getD i undef, tmps.getD j undef]) w := by
  unfold results
  rw [hr]
  generalize loadVar = L at hL ⊢
  have ha' : tmps[a]?.getD undef = .pointer (some x) := by rw [← ha]; simp
  simp [ha', hL, go_sem]

theorem wp_load_entry {op : Oper} {a : Act} {w : World} {K : Act → World → Prop} {Q : Exit → Act → World → Prop} (x : Operand) (ho : op.op = .load 30 x) (b : Nat) (hx : a.eval x = .pointer (some ⟨b, 0, none⟩)) (cs : Array Value)
    (hg : w.heap[b]? = some (.cells cs 30 (0, 0))) (hs : some 20 = some cs.size) (h : K (a.put op.dst (.agg cs)) w) : op.wp Tryz.prog a w K Q := by
  unfold Oper.wp execOp
  simp only [ho, hx, Instr.loadAt, Instr.sureAddr, Sem.run_bind, Sem.run_pure, Result.andThen_ok, load_entry w b cs hg hs]
  exact h

theorem wp_load20 {dst : Option Tmp} {x : Operand} {ty : TypeId} {ps : String} {af : Array Edge} {gd : Option (Nat × Bool)} {a : Act} {w : World} {K : Act → World → Prop} {Q : Exit → Act → World → Prop} {b : Nat} {cs : Array Value} (hx : a.eval x = .pointer (some ⟨b, 0, none⟩))
    (hg : w.heap[b]? = some (.cells cs 30 (0, 0))) (hs : some 20 = some cs.size) (h : K (a.put dst (.agg cs)) w) : Oper.wp Tryz.prog { dst := dst, op := .load 30 x, type := ty, pos := ps, after := af, guard := gd } a w K Q :=
  wp_load_entry x rfl b hx cs hg hs h
theorem wp_store20 {dst : Option Tmp} {x y : Operand} {ty : TypeId} {ps : String} {af : Array Edge} {gd : Option (Nat × Bool)} {a : Act} {w : World} {K : Act → World → Prop} {Q : Exit → Act → World → Prop} {b : Nat} {old cs : Array Value} (hx : a.eval x = .pointer (some ⟨b, 0, none⟩)) (hy : a.eval y = .agg cs)
    (hb : b = w.heap.size) (ho : old.size = cs.size) (hs : some 20 = some cs.size) (h1 : cs.all (·.oneCell') = true) (h : K (a.put dst undef) (w.alloc (.cells cs 30))) :
    Oper.wp Tryz.prog { dst := dst, op := .store 30 x y, type := ty, pos := ps, after := af, guard := gd } a (w.alloc (.cells old 30)) K Q := by
  refine wp_store_row 30 x y rfl b cs hx hy 30 old (heap_alloc_at _ _ _ hb) (infoEnt.trans hs) ho h1 ?_
  rw [setRow_alloc _ _ _ _ _ hb]
  exact h

end Go.Proofs.YtckalplhaggaoaaGreatDoor

namespace Go.Proofs.YtckalplhaggaoaaGreatDoor
open Go.RowKit

set_option maxHeartbeats 4000000 in
set_option maxRecDepth 100000 in
theorem input_Read_long (s sheet : ByteArray) (hs : (200 : Int) < s.size) (w : World) :
    Calls Tryz.prog 10 #[.string s, .string sheet] w fun e w' => e = .returned (.tuple #[entV ⟨GCell.zero, false, GNode.zero, GVal.zero⟩ (.slice none 0 0), .int .i64 0, .int .i64 5]) ∧ Bel w w' := by
  go_enter Tryz.func10, Tryz.ntmps10
  go_upto_region 2 with fail
  iterate 5 go_step
  (refine wp_store_row 30 _ _ rfl w.heap.size _ rfl rfl 30 zero20.toArray (by (first | exact heap_alloc_at _ _ _ (by simp only [hsz, size_ext, Array.size_append] <;> omega) | (rw [heap_ext _ _ _ _ (by simp only [hsz, size_ext]; omega)]; exact heap_alloc_at _ _ _ (by simp only [hsz, size_ext, Array.size_append] <;> omega)) | (rw [heap_alloc_old _ _ (by simp only [hsz, size_ext]; omega), heap_ext _ _ _ _ (by simp only [hsz]; omega)]; exact heap_alloc_at _ _ _ (by simp only [hsz, size_ext, Array.size_append] <;> omega)))) infoEnt rfl (by simp [Value.oneCell']) ?_)
  rw [setRow_alloc _ _ _ _ _ rfl]
  go_wp2
  exact bodyPost_ret (v := .tuple #[entV ⟨GCell.zero, false, GNode.zero, GVal.zero⟩ (.slice none 0 0), .int .i64 0, .int .i64 5]) (results3 Tryz.results10 rfl (load_entry _ _ _ (heap_alloc_at _ _ _ rfl) rfl)) rfl ⟨rfl, by (repeat (first | exact Below.refl _ _ | with_reducible assumption | refine bel_ext ?_ _ _ | refine bel_alloc ?_ _ | refine bel_drew ?_ | refine bel_drewN ?_ _ | refine bel_set ?_ (by simp; try omega) _))⟩

set_option maxHeartbeats 4000000 in
set_option maxRecDepth 100000 in
theorem input_Read_const (s sheet : ByteArray) (hs : s.size ≤ 200) (hp : Lib.hasPrefix s.data.toList [61] = false) (w : World) (hG : Gl w) :
    Calls Tryz.prog 10 #[.string s, .string sheet] w fun e w' => e = .returned (.tuple #[entV ⟨GCell.zero, false, GNode.zero, constI s.data.toList⟩ (.slice none 0 0), .int .i64 (-1), .int .i64 0]) ∧ Bel w w' := by
  have HP := Lib.hid (fun w1 => Tryz.strings_CutPrefix s ⟨#[61]⟩ w1)
  have hp' : Lib.hasPrefix s.data.toList (⟨#[61]⟩ : ByteArray).data.toList = false := hp
  rw [hp'] at HP
  have HC := Lib.hid (fun w1 (b : Bel w w1) => input_constant s hs w1 (hG.bel b))
  have hss : (s.size : Int) ≤ 200 := by omega
  clear hG hp hp'
  unfold valV at HC
  generalize constI s.data.toList = K at *
  obtain ⟨k1, k2, k3⟩ := K
  go_enter Tryz.func10, Tryz.ntmps10
  go_upto_region 5 with (go_at_call 22; refine (HP.out _).mono ?_; rintro e' w1 ⟨rfl, hw1⟩; rw [hw1]; clear hw1)
  repeat (first
    | (refine wp_store_row 30 _ _ rfl w.heap.size _ rfl rfl 30 zero20.toArray (by (first | exact heap_alloc_at _ _ _ (by simp only [hsz, size_ext, Array.size_append] <;> omega) | (rw [heap_ext _ _ _ _ (by simp only [hsz, size_ext]; omega)]; exact heap_alloc_at _ _ _ (by simp only [hsz, size_ext, Array.size_append] <;> omega)) | (rw [heap_alloc_old _ _ (by simp only [hsz, size_ext]; omega), heap_ext _ _ _ _ (by simp only [hsz]; omega)]; exact heap_alloc_at _ _ _ (by simp only [hsz, size_ext, Array.size_append] <;> omega)))) infoEnt rfl (by simp [Value.oneCell']) ?_)
    | (go_at_call 21; refine (HC.out _ (by (repeat (first | exact Below.refl _ _ | with_reducible assumption | refine bel_ext ?_ _ _ | refine bel_alloc ?_ _ | refine bel_drew ?_ | refine bel_drewN ?_ _ | refine bel_set ?_ (by simp; try omega) _)))).mono ?_; rintro e' w' ⟨rfl, hb'⟩; obtain ⟨d1, o1, rfl⟩ := hb'.ext; clear hb'; dsimp only)
    | go_step)
  exact bodyPost_ret (v := .tuple #[entV ⟨GCell.zero, false, GNode.zero, ⟨k1, k2, k3⟩⟩ (.slice none 0 0), .int .i64 (-1), .int .i64 0]) (results3 Tryz.results10 rfl (load_entry _ _ _ ((heap_ext _ _ _ _ (by simp only [hsz]; omega)).trans (heap_alloc_at _ _ _ rfl)) rfl)) rfl ⟨rfl, by (repeat (first | exact Below.refl _ _ | with_reducible assumption | refine bel_ext ?_ _ _ | refine bel_alloc ?_ _ | refine bel_drew ?_ | refine bel_drewN ?_ _ | refine bel_set ?_ (by simp; try omega) _))⟩

theorem trim_eq (l : Str) : (⟨(Lib.trimPrefix (bs (61 :: l)).data.toList (⟨#[61]⟩ : ByteArray).data.toList).toArray⟩ : ByteArray) = bs l ∧ Lib.hasPrefix (bs (61 :: l)).data.toList (⟨#[61]⟩ : ByteArray).data.toList = true := by
  have h : Lib.hasPrefix (61 :: l) [61] = true := by rw [prefix_cons]; rfl
  have h2 : (bs (61 :: l)).data.toList = 61 :: l := by simp [bs]
  have h3 : (⟨#[61]⟩ : ByteArray).data.toList = [61] := rfl
  rw [h2, h3]
  refine ⟨?_, h⟩
  unfold Lib.trimPrefix
  rw [h]; rfl

set_option maxHeartbeats 4000000 in
set_option maxRecDepth 100000 in
theorem input_Read_formula (n : GNode) (sheet : ByteArray) (hsz1 : (bs (61 :: showN n)).size ≤ 200) (hR : rightR n = true) (hi : intsN n) (hd : depthN n ≤ 20) (hnm : nameB sheet = true) (hnz : sheet.size ≤ 1000) (w : World) (hG : Gl w) :
    Calls Tryz.prog 10 #[.string (bs (61 :: showN n)), .string sheet] w fun e w' => ∃ v, e = .returned (.tuple #[entV ⟨GCell.zero, true, n, GVal.zero⟩ v, .int .i64 (-1), .int .i64 0]) ∧ NodeR w.heap.size n v w' ∧ Bel w w' := by
  have HP := Lib.hid (fun w1 => Tryz.strings_CutPrefix (bs (61 :: showN n)) ⟨#[61]⟩ w1)
  rw [(trim_eq (showN n)).1, (trim_eq (showN n)).2] at HP
  have hl : (showN n).length ≤ 199 := by rw [bs_size] at hsz1; simp at hsz1; omega
  have HQ := Lib.hid (fun w1 (b : Bel w w1) => parse_Parse n (bs (showN n)) sheet (by simp [bs]) (by rw [bs_size]; omega) hR hi hd hnm hnz w1 (hG.bel b))
  have hss : ((bs (61 :: showN n)).size : Int) ≤ 200 := by omega
  clear hG hR hi hd hnm hl
  generalize bs (61 :: showN n) = S at *
  go_enter Tryz.func10, Tryz.ntmps10
  go_upto_region 9 with (first
    | (go_at_call 22; refine (HP.out _).mono ?_; rintro e' w1 ⟨rfl, hw1⟩; rw [hw1]; clear hw1)
    | (go_at_call 23; refine (HQ.out _ (by (repeat (first | exact Below.refl _ _ | with_reducible assumption | refine bel_ext ?_ _ _ | refine bel_alloc ?_ _ | refine bel_drew ?_ | refine bel_drewN ?_ _ | refine bel_set ?_ (by simp; try omega) _)))).mono ?_; rintro e' w' ⟨v, rfl, ⟨A, c, rfl, hr⟩, hb'⟩; obtain ⟨d1, o1, rfl⟩ := hb'.ext; clear hb'; unfold nodeV))
  repeat (first
    | (refine wp_store_row 30 _ _ rfl w.heap.size _ rfl rfl 30 zero20.toArray (by (first | exact heap_alloc_at _ _ _ (by simp only [hsz, size_ext, Array.size_append] <;> omega) | (rw [heap_ext _ _ _ _ (by simp only [hsz, size_ext]; omega)]; exact heap_alloc_at _ _ _ (by simp only [hsz, size_ext, Array.size_append] <;> omega)) | (rw [heap_alloc_old _ _ (by simp only [hsz, size_ext]; omega), heap_ext _ _ _ _ (by simp only [hsz]; omega)]; exact heap_alloc_at _ _ _ (by simp only [hsz, size_ext, Array.size_append] <;> omega)))) infoEnt rfl (by simp [Value.oneCell']) ?_)
    | go_step)
  rw [setRow_alloc_old _ _ _ _ (by simp only [size_ext, hsz]; omega), setRow_ext _ _ _ _ _ (by simp only [hsz]; omega), setRow_alloc _ _ _ _ _ rfl]
  have hk : ∀ X Y : World, ∀ d (os : Array Obj) o, X.heap.size = Y.heap.size → ∀ b, X.heap.size ≤ b → b < (ext X d os).heap.size → ((ext Y d os).alloc o).heap[b]? = (ext X d os).heap[b]? := fun X Y d os o hXY b h1 h2 => by
    rw [heap_alloc_old _ _ (by rw [size_ext] at h2 ⊢; omega), ext_at _ _ _ _ h1, ext_at _ _ _ _ (by omega), hXY]
  refine bodyPost_ret (v := .tuple #[entV ⟨GCell.zero, true, n, GVal.zero⟩ (.slice A n.kids.length c), .int .i64 (-1), .int .i64 0]) (results3 Tryz.results10 rfl (load_entry _ _ _ ((heap_alloc_old _ _ (by simp only [size_ext, hsz]; omega)).trans ((heap_ext _ _ _ _ (by simp only [hsz]; omega)).trans (heap_alloc_at _ _ _ rfl))) rfl)) rfl ⟨_, rfl, ⟨A, c, rfl, ?_⟩, by (repeat (first | exact Below.refl _ _ | with_reducible assumption | refine bel_ext ?_ _ _ | refine bel_alloc ?_ _ | refine bel_drew ?_ | refine bel_drewN ?_ _ | refine bel_set ?_ (by simp; try omega) _))⟩
  refine RdN.mono (fun b hb => ?_) _ _ (RdN.keep (fun b hb hlt => hk _ _ _ _ _ (by simp only [hsz]) b hb hlt) (by simp only [hsz, size_ext]; omega) _ _ hr)
  simp only [hsz] at hb
  omega

end Go.Proofs.YtckalplhaggaoaaGreatDoor
