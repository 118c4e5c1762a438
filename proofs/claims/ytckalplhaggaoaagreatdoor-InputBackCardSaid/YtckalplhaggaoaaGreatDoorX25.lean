/- Towards InputBack: what is shown as input is read back as it was, for every entry and every text; no condition. Part 25 of 28. -/
import Derived.Test.YtckalplhaggaoaaGreatDoorX04
import Derived.Test.YtckalplhaggaoaaGreatDoorX24
set_option linter.unusedVariables false
set_option linter.unusedSimpArgs false
namespace Go.Proofs.YtckalplhaggaoaaGreatDoor
open Go.RowKit

set_option maxHeartbeats 400000 in
theorem ref_RightNode (n : GNode) (A : Option Addr) (k c : Nat) (Z : Nat → Prop) (w : World) (hd : depthN n ≤ 4000000000000000000) (hr : RdN Z w n (.slice A k c)) :
    Calls Tryz.prog 7 #[nodeV n (.slice A k c)] w fun e w' => e = .returned (.bool (decide (depthN n ≤ 20) && rightR n)) ∧ Bel w w' := by
  have h1 := Lib.hid (fun w1 (b : Bel w w1) => ref_Depth (nsz n) n A k c Z w1 (Nat.le_refl _) hd (hr.bel b))
  have h2 := Lib.hid (fun w1 (b : Bel w w1) => ref_right (nsz n) n A k c Z w1 (Nat.le_refl _) (hr.bel b))
  clear hr
  unfold nodeV at h1 h2
  unfold nodeV
  go_enter Tryz.func7, Tryz.ntmps7
  go_wp2_with (first
    | (go_at_call 16; refine (h1.out _ (by (repeat (first | exact Below.refl _ _ | with_reducible assumption | refine bel_ext ?_ _ _ | refine bel_alloc ?_ _ | refine bel_drew ?_ | refine bel_drewN ?_ _ | refine bel_set ?_ (by simp; try omega) _)))).mono ?_; rintro e' w' ⟨rfl, hb'⟩; obtain ⟨d', o', rfl⟩ := hb'.ext; clear hb')
    | (go_at_call 17; refine (h2.out _ (by (repeat (first | exact Below.refl _ _ | with_reducible assumption | refine bel_ext ?_ _ _ | refine bel_alloc ?_ _ | refine bel_drew ?_ | refine bel_drewN ?_ _ | refine bel_set ?_ (by simp; try omega) _)))).mono ?_; rintro e' w' ⟨rfl, hb'⟩; obtain ⟨d', o', rfl⟩ := hb'.ext; clear hb'))
  all_goals (go_ret; refine ⟨ret_bool ?_, by (repeat (first | exact Below.refl _ _ | with_reducible assumption | refine bel_ext ?_ _ _ | refine bel_alloc ?_ _ | refine bel_drew ?_ | refine bel_drewN ?_ _ | refine bel_set ?_ (by simp; try omega) _))⟩; clear h1 h2; go_tidy; first | (simp_all; done) | (simp_all; intros; omega))

set_option maxHeartbeats 400000 in
theorem law_num (k : Int) (w : World) : Calls Tryz.prog 11 #[.int .i64 k] w fun e w' => e = .returned (.int .i64 k) ∧ w' = w := by
  go_enter Tryz.func11, Tryz.ntmps11
  go_wp2
  go_ret
  exact ⟨rfl, rfl⟩

theorem nszL_append : ∀ (a b : List GNode), nszL (a ++ b) = nszL a + nszL b
  | [], b => by simp [nszL]
  | k :: ks, b => by rw [List.cons_append, nszL, nszL_append ks b, nszL]; omega
theorem nszL_succ (l : List GNode) (i : Nat) (h : i < l.length) : nszL (l.take (i + 1)) = nszL (l.take i) + nsz l[i] := by
  rw [take_succ_get l i h, nszL_append, nszL, nszL]; omega
mutual
theorem depthN_le : ∀ n : GNode, depthN n ≤ nsz n
  | ⟨a, b, c, d, e, f, g⟩ => by
    rw [depthN, nsz]
    have := depthL_le g 0 (by omega)
    omega
theorem depthL_le : ∀ (l : List GNode) (m : Int), 0 ≤ m → depthL l m ≤ nszL l + m
  | [], m, _ => by rw [depthL, nszL]; omega
  | k :: ks, m, h => by
    rw [depthL, nszL]
    have h1 := depthN_le k
    have h2 := depthN_pos k
    have := depthL_le ks (if m < depthN k then depthN k else m) (by split <;> omega)
    have h3 : (if m < depthN k then depthN k else m) ≤ nsz k + m := by split <;> omega
    omega
end
def sizeP (n : GNode) (d v : Int) : Prop := 1 ≤ v ∧ v ≤ 102000 - 1000 * d ∧ (v ≤ 999 → (nsz n : Int) ≤ v)

set_option maxHeartbeats 4000000 in
set_option maxRecDepth 100000 in
theorem law_size (N : Nat) : ∀ (n : GNode) (A : Option Addr) (k c : Nat) (d : Int) (Z : Nat → Prop) (w : World), nsz n ≤ N → 0 ≤ d → d ≤ 101 → RdN Z w n (.slice A k c) →
    Calls Tryz.prog 13 #[nodeV n (.slice A k c), .int .i64 d] w fun e w' => ∃ v, e = .returned (.int .i64 v) ∧ sizeP n d v ∧ Bel w w' := by
  induction N with
  | zero => intro n A k c d Z w hN; exfalso; have := nsz_pos n; omega
  | succ N ih =>
    intro n A k c d Z w hN hd0 hd1 hr
    have HI := Lib.hid ih
    clear ih
    have hok := hr.kids.1
    obtain ⟨hk, hk2, -, g, o, hpos, hkid⟩ := hr.kid
    subst hk
    have Hkid := Lib.hid hkid
    have HN := Lib.hid hN
    have Hpos := Lib.hid hpos
    have h1000 : Hid (sizeP n d 1000) := by show sizeP _ _ _; unfold sizeP; omega
    have e1 : n.name.size ≤ 140737488351232 := hok.2.2.2.1
    have e2 : n.op.size ≤ 140737488351232 := hok.2.2.1
    have e3 : n.val.s.size ≤ 140737488351232 := hok.2.2.2.2.1.2.2
    have e4 : n.cell.sheet.size ≤ 140737488351232 := hok.2.2.2.2.2.1.1
    have e5 : n.to.sheet.size ≤ 140737488351232 := hok.2.2.2.2.2.2.1.1
    clear hkid hpos hr hN hok
    unfold nodeV
    by_cases hbad : 100 < d ∨ 100 < (n.name.size : Int) ∨ 100 < (n.op.size : Int) ∨ 400 < (n.val.s.size : Int) ∨ 100 < (n.cell.sheet.size : Int) ∨ 100 < (n.to.sheet.size : Int)
    case pos =>
      have Hb := Lib.hid hbad
      clear hbad
      go_enter Tryz.func13, Tryz.ntmps13
      go_wp2
      all_goals first
        | (go_ret; exact ⟨1000, rfl, h1000.out, by (repeat (first | exact Below.refl _ _ | with_reducible assumption | refine bel_ext ?_ _ _ | refine bel_alloc ?_ _ | refine bel_drew ?_ | refine bel_drewN ?_ _ | refine bel_set ?_ (by simp; try omega) _))⟩)
        | (exfalso; go_tidy; have := Hb.out; omega)
    have b1 : ¬ (100 < d) := fun h => hbad (.inl h)
    have b2 : ¬ (100 < (n.name.size : Int)) := fun h => hbad (.inr (.inl h))
    have b3 : ¬ (100 < (n.op.size : Int)) := fun h => hbad (.inr (.inr (.inl h)))
    have b4 : ¬ (400 < (n.val.s.size : Int)) := fun h => hbad (.inr (.inr (.inr (.inl h))))
    have b5 : ¬ (100 < (n.cell.sheet.size : Int)) := fun h => hbad (.inr (.inr (.inr (.inr (.inl h)))))
    have b6 : ¬ (100 < (n.to.sheet.size : Int)) := fun h => hbad (.inr (.inr (.inr (.inr (.inr h)))))
    clear hbad
    have h00 : Hid ((1 : Int) ≤ 999 → (nszL (n.kids.take 0) : Int) + 1 ≤ 1) := by show _ → _; rw [List.take_zero, nszL]; omega
    go_enter Tryz.func13, Tryz.ntmps13
    go_wp2
    generalize hW : w.alloc _ = W
    have hb0 : Bel w W := by rw [← hW]; exact bel1 _ _
    have hsl : W.cell? ⟨w.heap.size, 12, none⟩ = some (.slice A n.kids.length c) := by rw [← hW]; exact (World.cell?_alloc_at _ _ _ _ rfl).trans rfl
    have hsz : W.heap.size = w.heap.size + 1 := by rw [← hW]; exact Array.size_push _
    clear hW
    go_loopw [5, 6] (fun m t wr => ∃ (i : Nat) (s : Int), i ≤ n.kids.length ∧ t = .int .i64 i ∧ m = .int .i64 s ∧ 1 ≤ s ∧ s ≤ 102000 - 1000 * d ∧ Hid (s ≤ 999 → (nszL (n.kids.take i) : Int) + 1 ≤ s) ∧ Bel W wr) (fun _ t _ => n.kids.length - (intOf t).toNat)
    case atStart => exact ⟨0, 1, Nat.zero_le _, rfl, rfl, by omega, by omega, h00, Below.refl _ _⟩
    case round =>
      obtain ⟨i, s, hi, rfl, rfl, hs1, hs2, hs3, hb1⟩ := hrel
      have hb := hb0.then_ hb1
      have hsl1 := (hb1.cells w.heap.size 12 (by omega)).trans hsl
      by_cases hlt : i < n.kids.length
      · have hlen : (i : Int) < n.kids.length := by omega
        by_cases hsm : s < 1000
        · obtain ⟨rfl, hZ, hg⟩ := Hpos.out (by omega)
          obtain ⟨A', c', hs1', hs2'⟩ := Hkid.out i hlt
          have HC := Lib.hid (fun w1 (b1 : Bel w w1) => HI.out n.kids[i] A' n.kids[i].kids.length c' (d + 1) Z w1 (by have := nsz_kid n i hlt; have := HN.out; omega) (by omega) (by omega) (hs1'.bel b1))
          have hst := Lib.hid (nszL_succ n.kids i hlt)
          have hc := hs2'.bel hb hg
          clear hs1' hs2'
          unfold nodeAt at hc
          obtain ⟨q0, q1, q2, q3, q4, q5, q6, q7, q8, q9, q10, q11, q12⟩ := hc
          generalize n.kids[i] = kd at *
          go_wp2_with (go_at_call 13; refine (HC.out _ (by (repeat (first | exact Below.refl _ _ | with_reducible assumption | refine bel_ext ?_ _ _ | refine bel_alloc ?_ _ | refine bel_drew ?_ | refine bel_drewN ?_ _ | refine bel_set ?_ (by simp; try omega) _)))).mono ?_; rintro e' w' ⟨v, rfl, hv, hb'⟩; obtain ⟨d', o', rfl⟩ := hb'.ext; clear hb'; obtain ⟨hv1, hv2, hv3⟩ := hv)
          go_roundw
          case rel =>
            refine ⟨i + 1, s + v, by omega, by go_num, by go_num, by omega, by omega, ?_, by (repeat (first | exact Below.refl _ _ | with_reducible assumption | refine bel_ext ?_ _ _ | refine bel_alloc ?_ _ | refine bel_drew ?_ | refine bel_drewN ?_ _ | refine bel_set ?_ (by simp; try omega) _))⟩
            have h3 := hs3.out
            show _ → _
            intro hsv
            have h3' := h3 (by omega)
            have hv3' := hv3 (by omega)
            rw [hst.out]
            omega
          case measure => simp [intOf]; omega
        · have hv : Hid (sizeP n d s) := by show sizeP _ _ _; unfold sizeP; omega
          go_wp2
          go_ret
          exact ⟨s, rfl, hv.out, by (repeat (first | exact Below.refl _ _ | with_reducible assumption | refine bel_ext ?_ _ _ | refine bel_alloc ?_ _ | refine bel_drew ?_ | refine bel_drewN ?_ _ | refine bel_set ?_ (by simp; try omega) _))⟩
      · have hlen : ¬ (i : Int) < n.kids.length := by omega
        have hv : Hid (sizeP n d s) := by
          show sizeP _ _ _
          refine ⟨hs1, hs2, fun h => ?_⟩
          have := hs3.out h
          rw [List.take_of_length_le (by omega)] at this
          rw [nsz_eq]; omega
        go_wp2
        go_ret
        exact ⟨s, rfl, hv.out, by (repeat (first | exact Below.refl _ _ | with_reducible assumption | refine bel_ext ?_ _ _ | refine bel_alloc ?_ _ | refine bel_drew ?_ | refine bel_drewN ?_ _ | refine bel_set ?_ (by simp; try omega) _))⟩

def fewP (n : GNode) (b : Bool) : Prop := b = true → nsz n ≤ 400
set_option maxHeartbeats 400000 in
theorem law_Few (n : GNode) (A : Option Addr) (k c : Nat) (Z : Nat → Prop) (w : World) (hr : RdN Z w n (.slice A k c)) :
    Calls Tryz.prog 5 #[nodeV n (.slice A k c)] w fun e w' => ∃ b, e = .returned (.bool b) ∧ fewP n b ∧ Bel w w' := by
  have h1 := Lib.hid (fun w1 (b : Bel w w1) => law_size (nsz n) n A k c 0 Z w1 (Nat.le_refl _) (by omega) (by omega) (hr.bel b))
  clear hr
  unfold nodeV at h1
  unfold nodeV
  go_enter Tryz.func5, Tryz.ntmps5
  go_wp2_with (go_at_call 13; refine (h1.out _ (by (repeat (first | exact Below.refl _ _ | with_reducible assumption | refine bel_ext ?_ _ _ | refine bel_alloc ?_ _ | refine bel_drew ?_ | refine bel_drewN ?_ _ | refine bel_set ?_ (by simp; try omega) _)))).mono ?_; rintro e' w' ⟨v, rfl, hv, hb'⟩; obtain ⟨d', o', rfl⟩ := hb'.ext; clear hb'; obtain ⟨hv1, hv2, hv3⟩ := hv)
  go_ret
  refine ⟨_, rfl, ?_, by (repeat (first | exact Below.refl _ _ | with_reducible assumption | refine bel_ext ?_ _ _ | refine bel_alloc ?_ _ | refine bel_drew ?_ | refine bel_drewN ?_ _ | refine bel_set ?_ (by simp; try omega) _))⟩
  intro h
  have : v ≤ 400 := by simpa using h
  have := hv3 (by omega)
  omega

end Go.Proofs.YtckalplhaggaoaaGreatDoor

namespace Go.Proofs.YtckalplhaggaoaaGreatDoor
open Go.RowKit

theorem alive_read (w : World) (hG : Gl w) :
    Calls Tryz.prog 10 #[.string ⟨#[53]⟩, .string ⟨#[115]⟩] w fun e w' => e = .returned (.tuple #[entV ⟨GCell.zero, false, GNode.zero, ⟨1, 5, ⟨#[]⟩⟩⟩ (.slice none 0 0), .int .i64 (-1), .int .i64 0]) ∧ Bel w w' := by
  have := input_Read_const ⟨#[53]⟩ ⟨#[115]⟩ (by decide) rfl w hG
  have e : constI (⟨#[53]⟩ : ByteArray).data.toList = ⟨1, 5, ⟨#[]⟩⟩ := by
    have h : Lib.itoa 5 = [53] := by unfold Lib.itoa; rw [if_neg (by decide), Lib.decDigits_one (by decide)]; rfl
    have := constI_int 5 (by decide) (by decide)
    rw [h] at this; exact this
  rw [e] at this
  exact this
theorem alive_show (w : World) (hG : Gl w) :
    Calls Tryz.prog 9 #[entV ⟨GCell.zero, false, GNode.zero, ⟨1, 5, ⟨#[]⟩⟩⟩ (.slice none 0 0)] w fun e w' => e = .returned (.string ⟨#[53]⟩) ∧ Bel w w' := by
  have := input_Show_plain GCell.zero GNode.zero 1 5 ⟨#[]⟩ (.slice none 0 0) rfl (by decide) (by decide) w hG
  have e : showV ⟨1, 5, ⟨#[]⟩⟩ = ⟨#[53]⟩ := by
    have h : Lib.itoa 5 = [53] := by unfold Lib.itoa; rw [if_neg (by decide), Lib.decDigits_one (by decide)]; rfl
    have hr : rightV ⟨1, 5, ⟨#[]⟩⟩ = true := by unfold rightV; simp [Lib.toList_data]
    unfold showV; rw [hr]; simp [itoaB, h, bs]
  rw [e] at this
  exact this

set_option maxHeartbeats 8000000 in
set_option maxRecDepth 100000 in
theorem law_alive (w : World) (hG : Gl w) :
    Calls Tryz.prog 4 #[] w fun e w' => e = .returned (.bool true) ∧ Bel w w' := by
  have HR := Lib.hid (alive_read w hG)
  have HS := Lib.hid (fun w1 (b : Bel w w1) => alive_show w1 (hG.bel b))
  have HN := Lib.hid (fun w1 => law_num 0 w1)
  unfold entV at HR HS
  unfold GCell.zero GNode.zero GVal.zero GCell.zero at HR HS
  have heq : eqVal ⟨1, 5, ⟨#[]⟩⟩ ⟨1, 5, ⟨#[]⟩⟩ = true := (eqVal_iff _ _).2 rfl
  clear hG
  go_enter Tryz.func4, Tryz.ntmps4
  go_upto_region 1 with fail
  repeat (first
    | (((with_reducible refine wp_store20 (b := ?b) (cs := ?cs) ?hx ?hy ?hb ?ho ?hs ?h1 ?h); (case hx => exact rfl); (case hy => exact rfl); (case hb => (simp only [hsz, size_ext, Array.size_append] <;> omega)); (case ho => exact rfl); (case hs => exact rfl); (case h1 => simp [Value.oneCell'])))
    | (go_at_call 10; refine HR.out.mono ?_; rintro e' w' ⟨rfl, hb'⟩; obtain ⟨d1, o1, rfl⟩ := hb'.ext; clear hb'; dsimp only)
    | go_step)
  repeat (first
    | ((with_reducible refine wp_load20 (b := ?b) (cs := ?cs) ?hx ?hg ?hs ?h); (case hx => exact rfl); (case hg => (first | ((with_reducible refine heap_alloc_at _ _ _ ?_); (simp only [hsz, size_ext, Array.size_append] <;> omega)) | ((with_reducible refine (heap_ext _ _ _ _ ?_).trans (heap_alloc_at _ _ _ ?_)) <;> (simp only [hsz, size_ext, Array.size_append] <;> omega)) | ((with_reducible refine (heap_alloc_old _ _ ?_).trans ((heap_ext _ _ _ _ ?_).trans (heap_alloc_at _ _ _ ?_))) <;> (simp only [hsz, size_ext, Array.size_append] <;> omega)))); (case hs => exact rfl))
    | (go_at_call 11; refine (HN.out _).mono ?_; rintro e' w1 ⟨rfl, hw1⟩; rw [hw1]; clear hw1; dsimp only)
    | (go_at_call 9; refine (HS.out _ (by (repeat (first | exact Below.refl _ _ | with_reducible assumption | refine bel_ext ?_ _ _ | refine bel_alloc ?_ _ | refine bel_drew ?_ | refine bel_drewN ?_ _ | refine bel_set ?_ (by simp; try omega) _)))).mono ?_; rintro e' w' ⟨rfl, hb'⟩; obtain ⟨d2, o2, rfl⟩ := hb'.ext; clear hb'; dsimp only)
    | go_skip | go_guarded | go_step)
  go_ret
  exact ⟨rfl, by (repeat (first | exact Below.refl _ _ | with_reducible assumption | refine bel_ext ?_ _ _ | refine bel_alloc ?_ _ | refine bel_drew ?_ | refine bel_drewN ?_ _ | refine bel_set ?_ (by simp; try omega) _))⟩

theorem showI_len (v : GVal) (h : rightV v = true) (h4 : v.kind ≠ 4) (h0 : -9223372036854775808 ≤ v.n) (h1 : v.n ≤ 9223372036854775807) (hs : v.s.size ≤ 199) : (showI v).length ≤ 200 := by
  have hl := len_data v.s
  unfold showI
  split
  · simp; omega
  · have hi := Lib.itoa_length_le v.n h0 h1
    unfold showV
    rw [h]
    simp only [Bool.true_eq_false, if_false]
    split
    · simp [itoaB, bs]; omega
    split
    · split <;> decide
    omega
theorem input_Show_value (cell : GCell) (n : GNode) (v : GVal) (t : Value) (h : rightV v = true) (h0 : -9223372036854775808 ≤ v.n) (h1 : v.n ≤ 9223372036854775807) (hs : v.s.size ≤ 199) (w : World) (hG : Gl w) :
    Calls Tryz.prog 9 #[entV ⟨cell, false, n, v⟩ t] w fun e w' => e = .returned (.string (bs (showI v))) ∧ Bel w w' := by
  obtain ⟨k, m, s⟩ := v
  by_cases hk : k = 2
  · subst hk
    have hm : m = 0 := by unfold rightV at h; simp at h; exact h.1
    subst hm
    exact input_Show_text cell n s hs t w hG
  · have hk' : (k == 2) = false := by simpa using hk
    have e : bs (showI ⟨k, m, s⟩) = showV ⟨k, m, s⟩ := by
      unfold showI quotedI
      simp only [hk', Bool.false_and, Bool.false_eq_true, if_false]
      exact bs_back _
    rw [e]
    exact input_Show_plain cell n k m s t hk' h0 h1 w hG

end Go.Proofs.YtckalplhaggaoaaGreatDoor

namespace Go.Proofs.YtckalplhaggaoaaGreatDoor
open Go.RowKit

theorem depth_of_few {n : GNode} {b : Bool} (h : fewP n b) (hb : b = true) : nsz n ≤ 400 ∧ depthN n ≤ 4000000000000000000 := by
  have h1 := h hb
  have h2 := depthN_le n
  omega

set_option maxHeartbeats 8000000 in
set_option maxRecDepth 100000 in
theorem law_value (cell : GCell) (n : GNode) (v : GVal) (A : Option Addr) (k c : Nat) (Z : Nat → Prop) (sheet : ByteArray) (w : World) (hr : RdN Z w n (.slice A k c)) (hG : Gl w) (hsh : sheet.size ≤ 9223372036854775807) (hok : okVal v)
    (hn : nameB sheet = true) (hR : rightV v = true) (h4 : (v.kind == 4) = false) (hs : v.s.size ≤ 199) :
    Calls Tryz.prog 3 #[entV ⟨cell, false, n, v⟩ (.slice A k c), .string sheet] w fun e w' => e = .returned (.bool true) ∧ Bel w w' := by
  have HA := Lib.hid (fun w1 (b : Bel w w1) => law_alive w1 (hG.bel b))
  have HF := Lib.hid (fun w1 (b : Bel w w1) => law_Few n A k c Z w1 (hr.bel b))
  have HNm := Lib.hid (fun w1 => ref_Name sheet hsh w1)
  rw [hn] at HNm
  have HRV := Lib.hid (fun w1 => ref_RightValue v w1)
  rw [hR] at HRV
  have hss : (v.s.size : Int) ≤ 199 := by omega
  clear hn
  unfold nodeV at HF
  unfold entV
  go_enter Tryz.func3, Tryz.ntmps3
  go_upto_region 4 with (first
    | (go_at_call 4; refine (HA.out _ (by (repeat (first | exact Below.refl _ _ | with_reducible assumption | refine bel_ext ?_ _ _ | refine bel_alloc ?_ _ | refine bel_drew ?_ | refine bel_drewN ?_ _ | refine bel_set ?_ (by simp; try omega) _)))).mono ?_; rintro e' w' ⟨rfl, hb'⟩; obtain ⟨d1, o1, rfl⟩ := hb'.ext; clear hb')
    | (go_at_call 5; refine (HF.out _ (by (repeat (first | exact Below.refl _ _ | with_reducible assumption | refine bel_ext ?_ _ _ | refine bel_alloc ?_ _ | refine bel_drew ?_ | refine bel_drewN ?_ _ | refine bel_set ?_ (by simp; try omega) _)))).mono ?_; rintro e' w' ⟨b, rfl, hfew, hb'⟩; obtain ⟨d2, o2, rfl⟩ := hb'.ext; clear hb')
    | (go_at_call 6; refine (HNm.out _).mono ?_; rintro e' w1 ⟨rfl, hw1⟩; rw [hw1]; clear hw1)
    | (go_at_call 8; refine (HRV.out _).mono ?_; rintro e' w' ⟨rfl, hb'⟩; obtain ⟨d3, o3, rfl⟩ := hb'.ext; clear hb'))
  · have h0 := hok.1
    have h1 := hok.2.1
    have HSh := Lib.hid (fun w1 (b : Bel w w1) => input_Show_value cell n v (.slice A k c) hR h0 h1 hs w1 (hG.bel b))
    have hsz2 : (bs (showI v)).size ≤ 200 := by rw [bs_size]; exact showI_len v hR (by simpa using h4) h0 h1 hs
    have hbk := showI_back v hR (by simpa using h4) h0 h1
    have hbb : (bs (showI v)).data.toList = showI v := by simp [bs]
    have HRd := Lib.hid (fun w1 (b : Bel w w1) => input_Read_const (bs (showI v)) sheet hsz2 (by rw [hbb]; exact hbk.2) w1 (hG.bel b))
    rw [hbb, hbk.1] at HRd
    have hlt : ((bs (showI v)).size : Int) ≤ 200 := by omega
    have heq : eqVal ⟨v.kind, v.n, v.s⟩ ⟨v.kind, v.n, v.s⟩ = true := (eqVal_iff _ _).2 rfl
    have HNum := Lib.hid (fun w1 => law_num 0 w1)
    dsimp only [entV, GNode.zero, GVal.zero, GCell.zero] at HSh HRd
    clear hR h4 hs h0 h1 hsz2 hbk hbb HF HA HNm HRV hfew
    generalize bs (showI v) = S at *
    clear hr hG hok hsh hss
    obtain ⟨vk, vn, vs⟩ := v
    obtain ⟨cs, cc, cr⟩ := cell
    obtain ⟨n1, n2, n3, ⟨n4, n5, n6⟩, ⟨n7, n8, n9⟩, ⟨n10, n11, n12⟩, n13⟩ := n
    dsimp only at HSh HRd heq ⊢
    go_step
    go_step
    refine wp_load_entry _ rfl _ rfl _ (by rw [heap_ext _ _ _ _ (by simp only [hsz, size_ext]; omega)]; exact heap_alloc_at _ _ _ (by simp only [hsz, size_ext, Array.size_append] <;> omega)) rfl ?_
    repeat (first
      | (((with_reducible refine wp_store20 (b := ?b) (cs := ?cs) ?hx ?hy ?hb ?ho ?hs ?h1 ?h); (case hx => exact rfl); (case hy => exact rfl); (case hb => (simp only [hsz, size_ext, Array.size_append] <;> omega)); (case ho => exact rfl); (case hs => exact rfl); (case h1 => simp [Value.oneCell'])))
      | (go_at_call 9; refine (HSh.out _ (by (repeat (first | with_reducible exact Below.refl _ _ | with_reducible assumption | refine bel_ext ?_ _ _ | refine bel_alloc ?_ _ | refine bel_drew ?_ | refine bel_drewN ?_ _ | refine bel_set ?_ (by simp; try omega) _)))).mono ?_; rintro e' w' ⟨rfl, hb'⟩; obtain ⟨d4, o4, rfl⟩ := hb'.ext; clear hb'; dsimp only)
      | (go_at_call 10; refine (HRd.out _ (by (repeat (first | with_reducible exact Below.refl _ _ | with_reducible assumption | refine bel_ext ?_ _ _ | refine bel_alloc ?_ _ | refine bel_drew ?_ | refine bel_drewN ?_ _ | refine bel_set ?_ (by simp; try omega) _)))).mono ?_; rintro e' w' ⟨rfl, hb'⟩; obtain ⟨d5, o5, rfl⟩ := hb'.ext; clear hb'; dsimp only)
      | (go_at_call 11; refine (HNum.out _).mono ?_; rintro e' w1 ⟨rfl, hw1⟩; rw [hw1]; clear hw1; dsimp only)
      | go_skip | go_guarded | go_step)
    go_ret
    exact ⟨rfl, bel_alloc (bel_ext (bel_alloc (Below.refl _ _) _) _ _) _⟩
  · go_ret
    exact ⟨rfl, by (repeat (first | exact Below.refl _ _ | with_reducible assumption | refine bel_ext ?_ _ _ | refine bel_alloc ?_ _ | refine bel_drew ?_ | refine bel_drewN ?_ _ | refine bel_set ?_ (by simp; try omega) _))⟩

end Go.Proofs.YtckalplhaggaoaaGreatDoor
