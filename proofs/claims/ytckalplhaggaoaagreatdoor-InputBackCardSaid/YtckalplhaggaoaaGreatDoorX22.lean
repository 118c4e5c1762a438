/- Towards InputBack: what is shown as input is read back as it was, for every entry and every text; no condition. Part 22 of 28. -/
import Derived.Test.YtckalplhaggaoaaGreatDoorX21
import Derived.Deep.RegionHeld3
import Derived.Test.YtckalplhaggaoaaGreatDoorX08
set_option linter.unusedVariables false
set_option linter.unusedSimpArgs false
namespace Go.Proofs.YtckalplhaggaoaaGreatDoor
open Go.RowKit

theorem cmp_Or_at (x y z : Int) (X : World) (n : Nat) (hn : n = X.heap.size) :
    Calls Tryz.prog 139 #[.slice (some ⟨n, 0, none⟩) 3 3] (X.alloc (.cells #[.int .i64 x, .int .i64 y, .int .i64 z] 3)).drew fun e w' => e = .returned (.int .i64 (or3 x y z)) ∧ Bel (X.alloc (.cells #[.int .i64 x, .int .i64 y, .int .i64 z] 3)).drew w' := by
  have h : ∀ k, (X.alloc (.cells #[.int .i64 x, .int .i64 y, .int .i64 z] 3)).drew.cell? ⟨n, k, none⟩ = (X.alloc (.cells #[.int .i64 x, .int .i64 y, .int .i64 z] 3)).cell? ⟨n, k, none⟩ := fun _ => rfl
  exact cmp_Or_3 x y z n _ (by subst hn; show _ < (Array.push _ _).size; rw [Array.size_push]; omega) ((h 0).trans ((World.cell?_alloc_at _ _ _ _ hn).trans rfl)) ((h 1).trans ((World.cell?_alloc_at _ _ _ _ hn).trans rfl)) ((h 2).trans ((World.cell?_alloc_at _ _ _ _ hn).trans rfl))

set_option maxHeartbeats 4000000 in
set_option maxRecDepth 100000 in
theorem value_Compare (a b : GVal) (w : World) :
    Calls Tryz.prog 130 #[.agg #[.int .i64 a.kind, .int .i64 a.n, .string a.s], .agg #[.int .i64 b.kind, .int .i64 b.n, .string b.s]] w fun e w' => e = .returned (.int .i64 (compareV a b)) ∧ Bel w w' := by
  by_cases hr : rightV ⟨a.kind, a.n, a.s⟩ = true ∧ rightV ⟨b.kind, b.n, b.s⟩ = true
  · obtain ⟨r1, r2⟩ := hr
    have hv : Hid (compareV a b = or3 (cmpInt a.kind b.kind) (cmpInt a.n b.n) (cmpStr a.s b.s)) := by
      show _ = _
      have r1' : rightV a = true := r1
      have r2' : rightV b = true := r2
      simp [compareV, r1', r2']
    go_enter Tryz.func130, Tryz.ntmps130
    go_wp2_with (go_at_call 31; refine (value_Right ⟨_, _, _⟩ _).mono ?_; rintro e' w' ⟨rfl, hb'⟩; obtain ⟨d', o', rfl⟩ := hb'.ext; clear hb')
    generalize hW : ext _ _ _ = W
    have hb0 : Bel w W := by rw [← hW]; (repeat (first | exact Below.refl _ _ | with_reducible assumption | refine bel_ext ?_ _ _ | refine bel_alloc ?_ _ | refine bel_drew ?_ | refine bel_drewN ?_ _ | refine bel_set ?_ (by simp; try omega) _))
    have hsz : w.heap.size + 1 < W.heap.size := by rw [← hW, size_ext]; show _ < (Array.push (Array.push _ _) _).size + _; rw [Array.size_push, Array.size_push]; omega
    have cA : ∀ k (v : Value), #[Value.int .i64 a.kind, .int .i64 a.n, .string a.s][k]? = some v → W.cell? ⟨w.heap.size, k, none⟩ = some v := fun k v hk => by
      rw [← hW, cell_ext _ _ _ _ _ (by show _ < (Array.push (Array.push _ _) _).size; rw [Array.size_push, Array.size_push]; omega), World.cell?_alloc_past _ _ _ (by show _ < (Array.push _ _).size; rw [Array.size_push]; omega), World.cell?_alloc_at _ _ _ _ rfl]; exact hk
    have cB : ∀ k (v : Value), #[Value.int .i64 b.kind, .int .i64 b.n, .string b.s][k]? = some v → W.cell? ⟨w.heap.size + 1, k, none⟩ = some v := fun k v hk => by
      rw [← hW, cell_ext _ _ _ _ _ (by show _ < (Array.push (Array.push _ _) _).size; rw [Array.size_push, Array.size_push]; omega), World.cell?_alloc_at _ _ _ _ (by show _ = (Array.push _ _).size; rw [Array.size_push])]; exact hk
    have a0 := cA 0 _ rfl
    have a1 := cA 1 _ rfl
    have a2 := cA 2 _ rfl
    have b0 := cB 0 _ rfl
    have b1 := cB 1 _ rfl
    have b2 := cB 2 _ rfl
    clear hW cA cB
    go_region_held3 (fun w' => w'.cell? ⟨w.heap.size, 0, none⟩ = some (.int .i64 a.kind) ∧ w'.cell? ⟨w.heap.size, 1, none⟩ = some (.int .i64 a.n) ∧ w'.cell? ⟨w.heap.size, 2, none⟩ = some (.string a.s) ∧ w'.cell? ⟨w.heap.size + 1, 0, none⟩ = some (.int .i64 b.kind) ∧ w'.cell? ⟨w.heap.size + 1, 1, none⟩ = some (.int .i64 b.n) ∧ w'.cell? ⟨w.heap.size + 1, 2, none⟩ = some (.string b.s)) (first | go_keep | (refine ⟨?_, ?_, ?_, ?_, ?_, ?_⟩ <;> (rw [cell_ext _ _ _ _ _ (by show _ < (Array.push _ _).size; rw [Array.size_push]; omega), World.cell?_alloc_past _ _ _ (by omega)]; assumption))) (first
      | (go_at_call 140; refine (cmp_Compare_int _ _ _).mono ?_; rintro e' w' ⟨rfl, rfl⟩)
      | (go_at_call 141; refine (cmp_Compare_string _ _ _).mono ?_; rintro e' w' ⟨rfl, rfl⟩)
      | (go_at_call 139; refine Calls.mono (cmp_Or_at _ _ _ _ _ rfl) ?_; rintro e' w' ⟨rfl, hb'⟩; obtain ⟨d', o', rfl⟩ := hb'.ext; clear hb'))
    all_goals (go_wp2; go_ret; exact ⟨ret_int hv.out.symm, by (repeat (first | exact Below.refl _ _ | with_reducible assumption | refine bel_ext ?_ _ _ | refine bel_alloc ?_ _ | refine bel_drew ?_ | refine bel_drewN ?_ _ | refine bel_set ?_ (by simp; try omega) _))⟩)
  · have hv : Hid (compareV a b = 0) := by
      show _ = _
      have hr' : rightV a = false ∨ rightV b = false := by
        by_cases h1 : rightV a = true
        · right
          have : ¬ rightV b = true := fun h2 => hr ⟨h1, h2⟩
          simpa using this
        · left; simpa using h1
      simp only [compareV, if_pos hr']
    have Hr := Lib.hid hr
    clear hr
    go_enter Tryz.func130, Tryz.ntmps130
    go_wp2_with (go_at_call 31; refine (value_Right ⟨_, _, _⟩ _).mono ?_; rintro e' w' ⟨rfl, hb'⟩; obtain ⟨d', o', rfl⟩ := hb'.ext; clear hb')
    all_goals first
      | (go_ret; exact ⟨ret_int hv.out.symm, by (repeat (first | exact Below.refl _ _ | with_reducible assumption | refine bel_ext ?_ _ _ | refine bel_alloc ?_ _ | refine bel_drew ?_ | refine bel_drewN ?_ _ | refine bel_set ?_ (by simp; try omega) _))⟩)
      | (exfalso; apply Hr.out; constructor <;> simp_all)

end Go.Proofs.YtckalplhaggaoaaGreatDoor

namespace Go.Proofs.YtckalplhaggaoaaGreatDoor
open Go.RowKit

/-- What arith.compare answers. -/
def compV (op : ByteArray) (c : Int) : Bool :=
  if op.toList = [61] then c == 0 else if op.toList = [60, 62] then c != 0 else if op.toList = [60] then decide (c < 0) else if op.toList = [62] then decide (0 < c) else if op.toList = [60, 61] then decide (c ≤ 0) else if op.toList = [62, 61] then decide (0 ≤ c) else false

set_option maxHeartbeats 1600000 in
theorem arith_compare (op : ByteArray) (a b : GVal) (w : World) :
    Calls Tryz.prog 114 #[.string op, .agg #[.int .i64 a.kind, .int .i64 a.n, .string a.s], .agg #[.int .i64 b.kind, .int .i64 b.n, .string b.s]] w fun e w' => e = .returned (.tuple #[.bool (compV op (compareV a b)), .bool (isCmp op)]) ∧ Bel w w' := by
  go_enter Tryz.func114, Tryz.ntmps114
  go_wp2_with (go_at_call 130; refine (value_Compare ⟨_, _, _⟩ ⟨_, _, _⟩ _).mono ?_; rintro e' w' ⟨rfl, hb'⟩; obtain ⟨d', o', rfl⟩ := hb'.ext; clear hb')
  all_goals (go_ret2; refine ⟨?_, by (repeat (first | exact Below.refl _ _ | with_reducible assumption | refine bel_ext ?_ _ _ | refine bel_alloc ?_ _ | refine bel_drew ?_ | refine bel_drewN ?_ _ | refine bel_set ?_ (by simp; try omega) _))⟩; go_tidy; simp_all [compV, isCmp])

set_option maxHeartbeats 1600000 in
theorem arith_Is : IsLaw := by
  intro s w
  have HC := Lib.hid (fun w => arith_compare s .zero .zero w)
  unfold GVal.zero at HC
  go_enter Tryz.func94, Tryz.ntmps94
  go_wp2_with (go_at_call 114; refine (HC.out _).mono ?_; rintro e' w' ⟨rfl, hb'⟩; obtain ⟨d', o', rfl⟩ := hb'.ext; clear hb')
  all_goals (go_ret; refine ⟨ret_bool ?_, by (repeat (first | exact Below.refl _ _ | with_reducible assumption | refine bel_ext ?_ _ _ | refine bel_alloc ?_ _ | refine bel_drew ?_ | refine bel_drewN ?_ _ | refine bel_set ?_ (by simp; try omega) _))⟩; go_tidy; clear HC; simp_all [isOp])

end Go.Proofs.YtckalplhaggaoaaGreatDoor
