/- Towards InputBack: what is shown as input is read back as it was, for every entry and every text; no condition. Part 2 of 28. -/
import Derived.Test.YtckalplhaggaoaaGreatDoorX01
import Derived.Test.YtckalplhaggaoaaGreatDoorX00
import Derived.Deep.RegionWith
set_option linter.unusedVariables false
set_option linter.unusedSimpArgs false
namespace Go.Proofs.YtckalplhaggaoaaGreatDoor
open Go.RowKit

theorem strconv_Itoa (n : Int) (w : World) (hG : Gl w) (h0 : -9223372036854775808 ≤ n) (h1 : n ≤ 9223372036854775807) :
    Calls Tryz.prog 32 #[.int .i64 n] w fun e w' => e = .returned (.string (itoaB n)) ∧ Bel w w' :=
  (Tryz.strconv_Itoa n h0 h1 w hG.tab).mono fun _ _ ⟨he, hw⟩ => ⟨he, bel_of_grow hw⟩

def nameCells : Array Value := (errNames.map Value.string).toArray
theorem nameCells_at (i : Nat) (h2 : i < 7) : nameCells[i]? = some (.string (errNames.getD i ⟨#[]⟩)) := by
  have : i < errNames.length := h2
  simp [nameCells, List.getElem?_eq_getElem this, List.getD_eq_getElem?_getD]

set_option maxHeartbeats 400000 in
theorem value_names (w : World) :
    Calls Tryz.prog 33 #[] w fun e w' => e = .returned (.slice (some ⟨w.heap.size, 0, none⟩) 7 7) ∧ w' = w.alloc (.cells nameCells 9) := by
  go_enter Tryz.func33, Tryz.ntmps33
  go_wp2
  go_ret
  exact ⟨rfl, rfl⟩

set_option maxHeartbeats 800000 in
theorem value_Show_err (i : Nat) (hi : i < 7) (s : ByteArray) (hs : rightV ⟨4, (i : Int) + 1, s⟩ = true) (w : World) :
    Calls Tryz.prog 19 #[.agg #[.int .i64 4, .int .i64 ((i : Int) + 1), .string s]] w fun e w' => e = .returned (.string (errNames.getD i ⟨#[]⟩)) ∧ Bel w w' := by
  have hc := nameCells_at i hi
  generalize errNames.getD i ⟨#[]⟩ = nm at *
  go_enter Tryz.func19, Tryz.ntmps19
  go_wp2_with (go_at_call 31; refine (value_Right ⟨4, (i : Int) + 1, s⟩ _).mono ?_; rintro e' w' ⟨rfl, hb'⟩; obtain ⟨d', o', rfl⟩ := hb'.ext; clear hb')
  have hw : IntKind.i64.wrap (i : Int) = i := by rw [IntKind.wrap_i64]; omega
  have hi7 : (i : Int) < 7 := by omega
  go_region_with (go_at_call 33; refine (value_names _).mono ?_; rintro e' w' ⟨rfl, rfl⟩)
  all_goals go_wp2
  all_goals go_ret
  all_goals exact ⟨rfl, by (repeat (first | exact Below.refl _ _ | with_reducible assumption | refine bel_ext ?_ _ _ | refine bel_alloc ?_ _ | refine bel_drew ?_ | refine bel_drewN ?_ _ | refine bel_set ?_ (by simp; try omega) _))⟩

set_option maxHeartbeats 800000 in
theorem value_Show (v : GVal) (w : World) (hG : Gl w) (h0 : -9223372036854775808 ≤ v.n) (h1 : v.n ≤ 9223372036854775807) :
    Calls Tryz.prog 19 #[.agg #[.int .i64 v.kind, .int .i64 v.n, .string v.s]] w fun e w' => e = .returned (.string (showV v)) ∧ Bel w w' := by
  by_cases hk4 : v.kind = 4
  · obtain ⟨k, n, s⟩ := v
    simp only at hk4 h0 h1
    subst hk4
    by_cases hr : rightV ⟨4, n, s⟩ = true
    · have hb : 1 ≤ n ∧ n ≤ 7 := by simp [rightV] at hr; omega
      obtain ⟨i, rfl⟩ : ∃ i : Nat, n = (i : Int) + 1 := ⟨(n - 1).toNat, by omega⟩
      refine (value_Show_err i (by omega) s hr w).mono fun e w' ⟨he, hb⟩ => ⟨he.trans ?_, hb⟩
      simp [showV, hr]
    · go_enter Tryz.func19, Tryz.ntmps19
      have hr' : rightV ⟨4, n, s⟩ = false := by simpa using hr
      go_wp2_with (go_at_call 31; refine (value_Right ⟨4, n, s⟩ _).mono ?_; rintro e' w' ⟨rfl, hb'⟩; obtain ⟨d', o', rfl⟩ := hb'.ext; clear hb')
      go_ret
      exact ⟨by simp [showV, hr'], by (repeat (first | exact Below.refl _ _ | with_reducible assumption | refine bel_ext ?_ _ _ | refine bel_alloc ?_ _ | refine bel_drew ?_ | refine bel_drewN ?_ _ | refine bel_set ?_ (by simp; try omega) _))⟩
  have hk4' : (v.kind == 4) = false := by simpa using hk4
  go_enter Tryz.func19, Tryz.ntmps19
  go_wp2_with (first | (go_at_call 31; refine (value_Right v _).mono ?_; rintro e' w' ⟨rfl, hb'⟩; obtain ⟨d', o', rfl⟩ := hb'.ext; clear hb') | (go_at_call 32; refine (strconv_Itoa _ _ (hG.bel (by (repeat (first | exact Below.refl _ _ | with_reducible assumption | refine bel_ext ?_ _ _ | refine bel_alloc ?_ _ | refine bel_drew ?_ | refine bel_drewN ?_ _ | refine bel_set ?_ (by simp; try omega) _)))) (by omega) (by omega)).mono ?_; rintro e' w' ⟨rfl, hb'⟩; obtain ⟨d', o', rfl⟩ := hb'.ext; clear hb'))
  · have h : rightV v = false := by simpa using ‹(!rightV v) = true›
    go_ret
    exact ⟨by simp [showV, h], by (repeat (first | exact Below.refl _ _ | with_reducible assumption | refine bel_ext ?_ _ _ | refine bel_alloc ?_ _ | refine bel_drew ?_ | refine bel_drewN ?_ _ | refine bel_set ?_ (by simp; try omega) _))⟩
  · have h : rightV v = true := by simpa using ‹(!rightV v) = false›
    have hk : v.kind = 1 := by simpa using ‹(v.kind == 1) = true›
    go_ret
    exact ⟨by simp [showV, h, hk], by (repeat (first | exact Below.refl _ _ | with_reducible assumption | refine bel_ext ?_ _ _ | refine bel_alloc ?_ _ | refine bel_drew ?_ | refine bel_drewN ?_ _ | refine bel_set ?_ (by simp; try omega) _))⟩
  · have h : rightV v = true := by simpa using ‹(!rightV v) = false›
    have hk : v.kind = 3 := ‹_›
    have hn : v.n = 0 := by simpa using ‹(v.n == 0) = true›
    go_ret
    exact ⟨by simp [showV, h, hk, hn], by (repeat (first | exact Below.refl _ _ | with_reducible assumption | refine bel_ext ?_ _ _ | refine bel_alloc ?_ _ | refine bel_drew ?_ | refine bel_drewN ?_ _ | refine bel_set ?_ (by simp; try omega) _))⟩
  · have h : rightV v = true := by simpa using ‹(!rightV v) = false›
    have hk : v.kind = 3 := ‹_›
    have hn : ¬ v.n = 0 := by simpa using ‹(v.n == 0) = false›
    go_ret
    exact ⟨by simp [showV, h, hk, hn], by (repeat (first | exact Below.refl _ _ | with_reducible assumption | refine bel_ext ?_ _ _ | refine bel_alloc ?_ _ | refine bel_drew ?_ | refine bel_drewN ?_ _ | refine bel_set ?_ (by simp; try omega) _))⟩
  · have h : rightV v = true := by simpa using ‹(!rightV v) = false›
    have hk : ¬ v.kind = 3 := ‹_›
    have hk1 : ¬ v.kind = 1 := by simpa using ‹(v.kind == 1) = false›
    go_ret
    exact ⟨by simp [showV, h, hk, hk4, hk1], by (repeat (first | exact Below.refl _ _ | with_reducible assumption | refine bel_ext ?_ _ _ | refine bel_alloc ?_ _ | refine bel_drew ?_ | refine bel_drewN ?_ _ | refine bel_set ?_ (by simp; try omega) _))⟩

end Go.Proofs.YtckalplhaggaoaaGreatDoor

namespace Go.Proofs.YtckalplhaggaoaaGreatDoor
open Go.RowKit Go.Shelf

def wb_ren : Go.Shelf.Ren := ⟨fun | 167 => 108 | 240 => 99 | 276 => 118 | n => n, fun | 0 => 0 | 4 => 4 | 5 => 5 | 9 => 9 | 20 => 20 | 37 => 95 | 70 => 94 | 72 => 97 | 75 => 62 | 164 => 139 | 80 => 90 | n => n, fun | n => n⟩
theorem wb_lays : Go.Proofs.Lays.n167 Tryz.prog wb_ren := {
  mixed := by kernel_rfl
  f167 := Tryz.func108.trans (congrArg some (by kernel_rfl))
  f240 := Tryz.func99.trans (congrArg some (by kernel_rfl))
  f276 := Tryz.func118.trans (congrArg some (by kernel_rfl))
  t0 := Tryz.underlying0
  a0 := Tryz.isAgg0
  z0 := Tryz.sizeOf0
  v0 := Tryz.zeroValue0
  t4 := Tryz.underlying4
  a4 := Tryz.isAgg4
  z4 := Tryz.sizeOf4
  v4 := Tryz.zeroValue4
  t5 := Tryz.underlying5
  a5 := Tryz.isAgg5
  z5 := Tryz.sizeOf5
  v5 := Tryz.zeroValue5
  t9 := Tryz.underlying9
  a9 := Tryz.isAgg9
  z9 := Tryz.sizeOf9
  v9 := Tryz.zeroValue9
  t20 := Tryz.underlying20
  a20 := Tryz.isAgg20
  z20 := Tryz.sizeOf20
  v20 := Tryz.zeroValue20
  t37 := Tryz.underlying95
  a37 := Tryz.isAgg95
  z37 := Tryz.sizeOf95
  v37 := Tryz.zeroValue95
  t70 := Tryz.underlying94
  a70 := Tryz.isAgg94
  z70 := Tryz.sizeOf94
  v70 := Tryz.zeroValue94
  t72 := Tryz.underlying97
  a72 := Tryz.isAgg97
  z72 := Tryz.sizeOf97
  v72 := Tryz.zeroValue97
  t75 := Tryz.underlying62
  a75 := Tryz.isAgg62
  z75 := Tryz.sizeOf62
  v75 := Tryz.zeroValue62
  t164 := Tryz.underlying139
  a164 := Tryz.isAgg139
  z164 := Tryz.sizeOf139
  v164 := Tryz.zeroValue139}
theorem wb_extra : Builder.Extra Tryz.prog wb_ren := {
  sizeBuilder := by kernel_rfl
  liesBuilder := by kernel_rfl
  t5 := Tryz.underlying5
  a5 := Tryz.isAgg5
  z5 := Tryz.sizeOf5
  v5 := Tryz.zeroValue5
  infoByte := by kernel_rfl
  cellsByte := by kernel_rfl
  sizeByte := by kernel_rfl
  neB5 := by decide }

abbrev BAt (B b : Nat) (p : Value) (l : Str) (w : World) : Prop := Lib.BuilderAt 97 5 B b p (Lib.byteCells l) w
theorem Builder_WriteByte (B b : Nat) (l : Str) (c : UInt8) (w : World) (h : Lib.IsBuilder 97 5 B b (Lib.byteCells l) w) (hlen : l.length ≤ 1000) (hBw : B ≤ w.heap.size) :
    Calls Tryz.prog 108 #[.pointer (some ⟨b, 0, none⟩), .int .u8 (c.toNat : Int)] w fun e w' => e = .returned .nilIface ∧ Lib.IsBuilder 97 5 B b (Lib.byteCells (l ++ [c])) w' ∧ Below B w w' := by
  have := Any.Builder_WriteByte wb_lays wb_extra B b (Lib.byteCells l) (c.toNat : Int) w h (by rw [Lib.byteCells_length]; omega) hBw
  refine Calls.mono this ?_
  rintro e w' ⟨he, h1, h2⟩
  refine ⟨he, .inr ?_, h2⟩
  rw [Lib.byteCells_append]
  exact h1
theorem Builder_String (B b : Nat) (l : Str) (w : World) (h : Lib.IsBuilder 97 5 B b (Lib.byteCells l) w) (hBw : B ≤ w.heap.size) :
    Calls Tryz.prog 73 #[.pointer (some ⟨b, 0, none⟩)] w fun e w' => e = .returned (.string (bs l)) ∧ Below B w w' := Tryz.Builder_String_any B b l w h hBw

end Go.Proofs.YtckalplhaggaoaaGreatDoor

namespace Go.Proofs.YtckalplhaggaoaaGreatDoor
open Go.RowKit

set_option maxHeartbeats 400000 in
theorem addr_place (c : GCell) (w : World) :
    Calls Tryz.prog 98 #[.agg #[.string c.sheet, .int .i64 c.col, .int .i64 c.row]] w fun e w' => e = .returned (.bool (placeB c)) ∧ Bel w w' := by
  go_enter Tryz.func98, Tryz.ntmps98
  go_wp2
  all_goals (go_ret; refine ⟨congrArg (fun b => Ending.returned (.bool b)) ?_, by (repeat (first | exact Below.refl _ _ | with_reducible assumption | refine bel_ext ?_ _ _ | refine bel_alloc ?_ _ | refine bel_drew ?_ | refine bel_drewN ?_ _ | refine bel_set ?_ (by simp; try omega) _))⟩; go_tidy; first | (simp_all [placeB]; done) | (simp_all [placeB]; omega))

set_option maxHeartbeats 1600000 in
theorem addr_Name (s : ByteArray) (hs : s.size ≤ 9223372036854775807) (w : World) :
    Calls Tryz.prog 42 #[.string s] w fun e w' => e = .returned (.bool (nameB s)) ∧ w' = w := by
  by_cases h0 : 0 < s.size
  case neg =>
    have h1 : s.toList = [] := toList_nil (by omega)
    go_enter Tryz.func42, Tryz.ntmps42
    go_wp2
    go_ret
    exact ⟨ret_bool (nameB_nil h1).symm, rfl⟩
  have hn := Lib.hid (nameB_cons h0)
  have h1 : ¬ s.toList = [] := toList_ne h0
  have h1b : s.toList.isEmpty = false := by simpa using h1
  by_cases h2 : (s.size : Int) ≤ 8
  case neg =>
    go_enter Tryz.func42, Tryz.ntmps42
    go_wp2
    go_ret
    exact ⟨ret_bool (by rw [hn.out, decide_eq_false (by omega)]; rfl), rfl⟩
  by_cases h3 : (97 : Int) ≤ (s[0].toNat : Int)
  case neg =>
    go_enter Tryz.func42, Tryz.ntmps42
    go_wp2
    go_ret
    exact ⟨ret_bool (by rw [hn.out]; simp [smallc]; omega), rfl⟩
  by_cases h4 : (s[0].toNat : Int) ≤ 122
  case neg =>
    go_enter Tryz.func42, Tryz.ntmps42
    go_wp2
    go_ret
    exact ⟨ret_bool (by rw [hn.out]; simp [smallc]; omega), rfl⟩
  have hsm : Hid (smallc s[0] = true) := by show smallc s[0] = true; simp [smallc]; omega
  go_enter Tryz.func42, Tryz.ntmps42
  go_wp2
  go_loop [24] (fun t => ∃ k : Nat, k ≤ s.size ∧ t = .int .i64 k ∧ Hid (allTo (fun c => smallc c || digitc c) s k = true)) (fun t => s.size - (intOf t).toNat)
  case atStart => exact ⟨0, Nat.zero_le _, rfl, allTo_zero _ _⟩
  case round =>
    obtain ⟨k, hk, rfl, hall⟩ := hrel
    by_cases hlt : k < s.size
    · have hstep := Lib.hid (allTo_succ (fun c => smallc c || digitc c) s k hlt)
      by_cases hc : (smallc s[k] || digitc s[k]) = true
      · have hc' : (97 ≤ (s[k].toNat : Int) ∧ (s[k].toNat : Int) ≤ 122) ∨ (48 ≤ (s[k].toNat : Int) ∧ (s[k].toNat : Int) ≤ 57) := by simpa [smallc, digitc] using hc
        have H : Hid (allTo (fun c => smallc c || digitc c) s (k + 1) = true) := by
          show _ = true
          rw [hstep.out, hall.out]; simpa using hc
        clear hstep hc
        rcases hc' with ⟨a1, a2⟩ | ⟨a1, a2⟩
        all_goals
          go_wp2
          go_round
          case rel => exact ⟨k + 1, by omega, by go_num, H⟩
          case measure => simp [intOf]; omega
      · have hf : Hid (nameB s = false) := by
          show _ = false
          rw [hn.out, all_false s k hlt (by simpa using hc)]; simp
        have hc' : ((s[k].toNat : Int) < 97 ∨ 122 < (s[k].toNat : Int)) ∧ ((s[k].toNat : Int) < 48 ∨ 57 < (s[k].toNat : Int)) := by
          simp [smallc, digitc] at hc; omega
        clear hstep hc
        obtain ⟨a1, a2⟩ := hc'
        rcases a1 with a1 | a1 <;> rcases a2 with a2 | a2
        all_goals first | (exfalso; omega) | (go_wp2; go_ret; exact ⟨ret_bool hf.out.symm, rfl⟩)
    · go_wp2
      go_ret
      refine ⟨ret_bool ?_, rfl⟩
      obtain rfl : k = s.size := by omega
      have := hall.out
      rw [allTo_size] at this
      rw [hn.out, this, hsm.out]; simp [h2]

set_option maxHeartbeats 400000 in
theorem addr_Right (c : GCell) (hs : c.sheet.size ≤ 9223372036854775807) (w : World) :
    Calls Tryz.prog 70 #[.agg #[.string c.sheet, .int .i64 c.col, .int .i64 c.row]] w fun e w' => e = .returned (.bool (rightC c)) ∧ Bel w w' := by
  go_enter Tryz.func70, Tryz.ntmps70
  go_wp2_with (first | (go_at_call 42; refine (addr_Name _ hs _).mono ?_; rintro e' w' ⟨rfl, rfl⟩) | (go_at_call 98; refine (addr_place c _).mono ?_; rintro e' w' ⟨rfl, hb'⟩; obtain ⟨d', o', rfl⟩ := hb'.ext; clear hb'))
  all_goals (go_ret; refine ⟨congrArg (fun b => Ending.returned (.bool b)) ?_, by (repeat (first | exact Below.refl _ _ | with_reducible assumption | refine bel_ext ?_ _ _ | refine bel_alloc ?_ _ | refine bel_drew ?_ | refine bel_drewN ?_ _ | refine bel_set ?_ (by simp; try omega) _))⟩; go_tidy; simp_all [rightC])

end Go.Proofs.YtckalplhaggaoaaGreatDoor

namespace Go.Proofs.YtckalplhaggaoaaGreatDoor
open Go.RowKit

def nodeV (n : GNode) (s : Value) : Value := .agg #[.int .i64 n.kind, .string n.op, .string n.name, .int .i64 n.val.kind, .int .i64 n.val.n, .string n.val.s, .string n.cell.sheet, .int .i64 n.cell.col, .int .i64 n.cell.row, .string n.to.sheet, .int .i64 n.to.col, .int .i64 n.to.row, s]
/-- The cells of a node, from a place on; s: its kids' slice. -/
def nodeAt (w : World) (g o : Nat) (n : GNode) (s : Value) : Prop :=
  w.cell? ⟨g, o, none⟩ = some (.int .i64 n.kind) ∧ w.cell? ⟨g, o + 1, none⟩ = some (.string n.op) ∧ w.cell? ⟨g, o + 2, none⟩ = some (.string n.name) ∧
  w.cell? ⟨g, o + 3, none⟩ = some (.int .i64 n.val.kind) ∧ w.cell? ⟨g, o + 4, none⟩ = some (.int .i64 n.val.n) ∧ w.cell? ⟨g, o + 5, none⟩ = some (.string n.val.s) ∧
  w.cell? ⟨g, o + 6, none⟩ = some (.string n.cell.sheet) ∧ w.cell? ⟨g, o + 7, none⟩ = some (.int .i64 n.cell.col) ∧ w.cell? ⟨g, o + 8, none⟩ = some (.int .i64 n.cell.row) ∧
  w.cell? ⟨g, o + 9, none⟩ = some (.string n.to.sheet) ∧ w.cell? ⟨g, o + 10, none⟩ = some (.int .i64 n.to.col) ∧ w.cell? ⟨g, o + 11, none⟩ = some (.int .i64 n.to.row) ∧
  w.cell? ⟨g, o + 12, none⟩ = some s
/-- Sizes that a value has that lies in memory. -/
def okVal (v : GVal) : Prop := -9223372036854775808 ≤ v.n ∧ v.n ≤ 9223372036854775807 ∧ v.s.size ≤ 140737488351232
def okCell (c : GCell) : Prop := c.sheet.size ≤ 140737488351232 ∧ -9223372036854775808 ≤ c.col ∧ c.col ≤ 9223372036854775807 ∧ -9223372036854775808 ≤ c.row ∧ c.row ≤ 9223372036854775807
def okTop (n : GNode) : Prop := -9223372036854775808 ≤ n.kind ∧ n.kind ≤ 9223372036854775807 ∧ n.op.size ≤ 140737488351232 ∧ n.name.size ≤ 140737488351232 ∧ okVal n.val ∧ okCell n.cell ∧ okCell n.to ∧ n.kids.length ≤ 140737488351232

mutual
/-- s: the slice of a node's kids. -/
def RdN (Z : Nat → Prop) (w : World) : GNode → Value → Prop
  | ⟨k, op, nm, v, c, t, kids⟩, s => okTop ⟨k, op, nm, v, c, t, kids⟩ ∧ ∃ A cap, s = .slice A kids.length cap ∧ kids.length ≤ cap ∧ (0 < kids.length → ∃ g o, A = some ⟨g, o, none⟩ ∧ Z g ∧ g < w.heap.size ∧ RdL Z w g kids o)
def RdL (Z : Nat → Prop) (w : World) (g : Nat) : List GNode → Nat → Prop
  | [], _ => True
  | n :: ns, o => (∃ s, RdN Z w n s ∧ nodeAt w g o n s) ∧ RdL Z w g ns (o + 13)
end

theorem nodeAt.keep {w w' : World} {g o : Nat} {n : GNode} {s : Value} (h : nodeAt w g o n s) (hk : w'.heap[g]? = w.heap[g]?) : nodeAt w' g o n s := by
  have hc : ∀ k, w'.cell? ⟨g, k, none⟩ = w.cell? ⟨g, k, none⟩ := fun k => World.cell?_of_block (w := w) hk
  unfold nodeAt at *
  simp only [hc]
  exact h
mutual
theorem RdN.keep {Z : Nat → Prop} {w w' : World} (hk : ∀ b, Z b → b < w.heap.size → w'.heap[b]? = w.heap[b]?) (hs : w.heap.size ≤ w'.heap.size) : ∀ (n : GNode) (s : Value), RdN Z w n s → RdN Z w' n s
  | ⟨k, op, nm, v, c, t, kids⟩, s => by
    unfold RdN
    rintro ⟨h0, A, cap, h1, h2, h3⟩
    refine ⟨h0, A, cap, h1, h2, fun hp => ?_⟩
    obtain ⟨g, o, a1, a2, a3, a4⟩ := h3 hp
    exact ⟨g, o, a1, a2, Nat.lt_of_lt_of_le a3 hs, RdL.keep hk hs g (hk g a2 a3) kids o a4⟩
theorem RdL.keep {Z : Nat → Prop} {w w' : World} (hk : ∀ b, Z b → b < w.heap.size → w'.heap[b]? = w.heap[b]?) (hs : w.heap.size ≤ w'.heap.size) (g : Nat) (hg : w'.heap[g]? = w.heap[g]?) : ∀ (l : List GNode) (o : Nat), RdL Z w g l o → RdL Z w' g l o
  | [], o => by unfold RdL; exact fun h => h
  | n :: ns, o => by
    unfold RdL
    rintro ⟨⟨s, h1, h2⟩, h3⟩
    exact ⟨⟨s, RdN.keep hk hs n s h1, h2.keep hg⟩, RdL.keep hk hs g hg ns (o + 13) h3⟩
end
theorem RdN.bel {Z : Nat → Prop} {w w' : World} {n : GNode} {s : Value} (h : RdN Z w n s) (b : Bel w w') : RdN Z w' n s := RdN.keep (fun k _ hk => b.block k hk) b.size n s h
mutual
theorem RdN.mono {Z Z' : Nat → Prop} {w : World} (hz : ∀ b, Z b → Z' b) : ∀ (n : GNode) (s : Value), RdN Z w n s → RdN Z' w n s
  | ⟨k, op, nm, v, c, t, kids⟩, s => by
    unfold RdN
    rintro ⟨h0, A, cap, h1, h2, h3⟩
    refine ⟨h0, A, cap, h1, h2, fun hp => ?_⟩
    obtain ⟨g, o, a1, a2, a3, a4⟩ := h3 hp
    exact ⟨g, o, a1, hz g a2, a3, RdL.mono hz g kids o a4⟩
theorem RdL.mono {Z Z' : Nat → Prop} {w : World} (hz : ∀ b, Z b → Z' b) (g : Nat) : ∀ (l : List GNode) (o : Nat), RdL Z w g l o → RdL Z' w g l o
  | [], o => by unfold RdL; exact fun h => h
  | n :: ns, o => by
    unfold RdL
    rintro ⟨⟨s, h1, h2⟩, h3⟩
    exact ⟨⟨s, RdN.mono hz n s h1, h2⟩, RdL.mono hz g ns (o + 13) h3⟩
end
theorem RdL.get {Z : Nat → Prop} {w : World} {g : Nat} : ∀ (l : List GNode) (o : Nat), RdL Z w g l o → ∀ i (h : i < l.length), ∃ s, RdN Z w l[i] s ∧ nodeAt w g (o + i * 13) l[i] s
  | n :: ns, o, hl, 0, _ => by unfold RdL at hl; simpa using hl.1
  | n :: ns, o, hl, i + 1, h => by
    unfold RdL at hl
    have := RdL.get ns (o + 13) hl.2 i (by simpa using h)
    simpa [Nat.add_mul, Nat.add_assoc, Nat.add_comm 13] using this
theorem RdN.kids {Z : Nat → Prop} {w : World} {n : GNode} {s : Value} (h : RdN Z w n s) : okTop n ∧ ∃ A cap, s = .slice A n.kids.length cap ∧ n.kids.length ≤ cap ∧ (0 < n.kids.length → ∃ g o, A = some ⟨g, o, none⟩ ∧ Z g ∧ g < w.heap.size ∧ RdL Z w g n.kids o) := by
  obtain ⟨k, op, nm, v, c, t, kids⟩ := n
  unfold RdN at h
  exact h
/-- Kid i: its place, its cells. -/
theorem RdN.kid {Z : Nat → Prop} {w : World} {n : GNode} {A : Option Addr} {k cap : Nat} (h : RdN Z w n (.slice A k cap)) : k = n.kids.length ∧ k ≤ 140737488351232 ∧ k ≤ cap ∧ ∃ g o, (0 < k → A = some ⟨g, o, none⟩ ∧ Z g ∧ g < w.heap.size) ∧ ∀ i (hi : i < n.kids.length), ∃ A' c', RdN Z w n.kids[i] (.slice A' n.kids[i].kids.length c') ∧ nodeAt w g (o + i * 13) n.kids[i] (.slice A' n.kids[i].kids.length c') := by
  obtain ⟨h0, A', cap', e, h2, h3⟩ := h.kids
  injection e with e1 e2 e3
  subst e1 e2 e3
  refine ⟨rfl, h0.2.2.2.2.2.2.2, h2, ?_⟩
  by_cases hp : 0 < n.kids.length
  · obtain ⟨g, o, a1, a2, a3, a4⟩ := h3 hp
    refine ⟨g, o, fun _ => ⟨a1, a2, a3⟩, fun i hi => ?_⟩
    obtain ⟨s, b1, b2⟩ := RdL.get _ _ a4 i hi
    obtain ⟨_, A', c', rfl, _⟩ := b1.kids
    exact ⟨A', c', b1, b2⟩
  · exact ⟨0, 0, fun h => absurd h hp, fun i hi => by omega⟩
theorem nodeAt.bel {w w' : World} {g o : Nat} {n : GNode} {s : Value} (h : nodeAt w g o n s) (hb : Bel w w') (hg : g < w.heap.size) : nodeAt w' g o n s := h.keep (hb.block g hg)

end Go.Proofs.YtckalplhaggaoaaGreatDoor

namespace Go.Proofs.YtckalplhaggaoaaGreatDoor
open Go.RowKit

@[go_sem high] theorem eq_cell (d : Nat) (w : World) (a0 b0 : ByteArray) (a1 a2 b1 b2 : Int) : (Op.equalIn (d + 2) 23 (.agg #[.string a0, .int .i64 a1, .int .i64 a2]) (.agg #[.string b0, .int .i64 b1, .int .i64 b2])).run Tryz.prog w = .ok (eqCell ⟨a0, a1, a2⟩ ⟨b0, b1, b2⟩) w := by
  have hf : Tryz.prog.underlying 23 = some (.struct (Tryz.prog.fieldsOf 23)) := by kernel_rfl
  rw [run_equalIn_struct _ _ _ _ _ hf (by kernel_rfl)]
  simp [go_sem, Tryz.underlying23]
  by_cases h1 : a0.toList = b0.toList <;> by_cases h2 : a1 = b1 <;> by_cases h3 : a2 = b2 <;> simp [eqCell, h1, h2, h3]
@[go_sem high] theorem eq_val (d : Nat) (w : World) (a0 b0 a1 b1 : Int) (a2 b2 : ByteArray) : (Op.equalIn (d + 2) 25 (.agg #[.int .i64 a0, .int .i64 a1, .string a2]) (.agg #[.int .i64 b0, .int .i64 b1, .string b2])).run Tryz.prog w = .ok (eqVal ⟨a0, a1, a2⟩ ⟨b0, b1, b2⟩) w := by
  have hf : Tryz.prog.underlying 25 = some (.struct (Tryz.prog.fieldsOf 25)) := by kernel_rfl
  rw [run_equalIn_struct _ _ _ _ _ hf (by kernel_rfl)]
  simp [go_sem, Tryz.underlying25]
  by_cases h1 : a0 = b0 <;> by_cases h2 : a1 = b1 <;> by_cases h3 : a2.toList = b2.toList <;> simp [eqVal, h1, h2, h3]

end Go.Proofs.YtckalplhaggaoaaGreatDoor
