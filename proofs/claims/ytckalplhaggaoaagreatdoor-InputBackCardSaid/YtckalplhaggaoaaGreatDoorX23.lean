/- Towards InputBack: what is shown as input is read back as it was, for every entry and every text; no condition. Part 23 of 28. -/
import Derived.Test.YtckalplhaggaoaaGreatDoorX08
import Derived.Test.YtckalplhaggaoaaGreatDoorX22
set_option linter.unusedVariables false
set_option linter.unusedSimpArgs false
namespace Go.Proofs.YtckalplhaggaoaaGreatDoor
open Go.RowKit

theorem cellT_eq (c : GCell) : cellT c = bs (cellS c) := by
  unfold cellT cellS placeT bs
  apply toList_inj
  simp [Lib.toList_data]
theorem join_own (l : List GNode) (v : Value) (B : Nat) (sep : ByteArray) (w : World) (hown : w.ownsRow B 9 1 v l.length (strs l)) (hl : l.length ≤ 1000)
    (hlen : (Lib.join (l.map showN) sep.data.toList).length ≤ 140737488355328) :
    Calls Tryz.prog 51 #[v, .string sep] w fun e w' => e = .returned (.string (bs (Lib.join (l.map showN) sep.data.toList))) ∧ Bel w w' := by
  have hmap : (l.map fun k => bs (showN k)).map (·.data.toList) = l.map showN := by
    rw [List.map_map]; rfl
  rcases hown.2 with ⟨h1, h2⟩ | ⟨g', cap, cur, h1, h2, h3, h4, h5, h6, h7⟩
  · have : l = [] := List.eq_nil_of_length_eq_zero h2
    subst this h1
    exact (Tryz.strings_Join_none none 0 sep w).mono fun e w' ⟨he, hw⟩ => ⟨he, by rw [hw]; exact Below.refl _ _⟩
  · have hg : g' < w.heap.size := by
      by_cases hlt : g' < w.heap.size
      · exact hlt
      · rw [Array.getElem?_eq_none (by omega)] at h3; cases h3
    have hlen2 : (l.map fun k => bs (showN k)).length = l.length := by simp
    have := Tryz.strings_Join g' 0 cap (l.map fun k => bs (showN k)) sep w (fun j x hj => ?_) hg (by omega) (by omega) (by rw [hmap]; exact hlen)
    · rw [hmap, hlen2] at this
      subst h1
      exact this
    · have hj2 : j < l.length := by
        have := (List.getElem?_eq_some_iff.1 hj).1
        omega
      subst h1
      rw [Nat.zero_add, hown.cellAt j (by omega)]
      unfold strs
      rw [List.getElem?_map] at hj ⊢
      cases hq : l[j]? with
      | none => rw [hq] at hj; cases hj
      | some y => rw [hq] at hj; simp only [Option.map_some, Option.some.injEq] at hj ⊢; rw [hj]

theorem kids_of {Z : Nat → Prop} {w : World} {n : GNode} {A : Option Addr} {c N : Nat} (hr : RdN Z w n (.slice A n.kids.length c)) (hN : nsz n ≤ N + 1) (hR : ∀ k ∈ n.kids, rightR k = true) (hs : nsz n ≤ 400) (hG : Gl w)
    (ih : ∀ (n : GNode) (A : Option Addr) (k c : Nat) (Z : Nat → Prop) (w : World), nsz n ≤ N → nsz n ≤ 400 → rightR n = true → RdN Z w n (.slice A k c) → Gl w →
      Calls Tryz.prog 30 #[nodeV n (.slice A k c)] w fun e w' => e = .returned (.string (bs (showN n))) ∧ Bel w w') :
    ∃ g o, (0 < n.kids.length → A = some ⟨g, o, none⟩ ∧ g < w.heap.size) ∧ ∀ i (hi : i < n.kids.length), ∃ A' c', nodeAt w g (o + i * 13) n.kids[i] (.slice A' n.kids[i].kids.length c') ∧ ∀ w1, Bel w w1 →
      Calls Tryz.prog 30 #[nodeV n.kids[i] (.slice A' n.kids[i].kids.length c')] w1 fun e w' => e = .returned (.string (bs (showN n.kids[i]))) ∧ Bel w1 w' := by
  obtain ⟨-, hk2, hkc, g, o, hpos, hkid⟩ := hr.kid
  refine ⟨g, o, fun h => ⟨(hpos h).1, (hpos h).2.2⟩, fun i hi => ?_⟩
  obtain ⟨A', c', h1, h2⟩ := hkid i hi
  refine ⟨A', c', h2, fun w1 hb => ?_⟩
  have := nsz_kid n i hi
  exact ih _ _ _ _ Z w1 (by omega) (by omega) (hR _ (List.getElem_mem hi)) (h1.bel hb) (hG.bel hb)

set_option maxHeartbeats 8000000 in
set_option maxRecDepth 100000 in
theorem printer_show (N : Nat) : ∀ (n : GNode) (A : Option Addr) (k c : Nat) (Z : Nat → Prop) (w : World), nsz n ≤ N → nsz n ≤ 400 → rightR n = true → RdN Z w n (.slice A k c) → Gl w →
    Calls Tryz.prog 30 #[nodeV n (.slice A k c)] w fun e w' => e = .returned (.string (bs (showN n))) ∧ Bel w w' := by
  induction N with
  | zero => intro n A k c Z w hN; exfalso; have := nsz_pos n; omega
  | succ N ih =>
    intro n A k c Z w hN hs hR hr hG
    have hok := hr.kids.1
    obtain ⟨rfl, hk2, -⟩ := hr.kid
    have hl := showN_len (nsz n) n (Nat.le_refl _) hR (hr.ints)
    obtain ⟨hF, hB, hK⟩ := right_fields hR
    obtain ⟨g, o, hpos, hkid⟩ := kids_of hr hN hK hs hG ih
    have hklen : n.kids.length ≤ 400 := by
      have h1 := nsz_eq n
      have h2 : ∀ l : List GNode, l.length ≤ nszL l := fun l => by
        induction l with
        | nil => simp
        | cons x xs ih => rw [nszL]; have := nsz_pos x; simp; omega
      have := h2 n.kids
      omega
    have hKD := Lib.hid (fun w1 (b : Bel w w1) => printer_kids n A c g o w1 (by omega) (fun h => ⟨(hpos h).1, Nat.lt_of_lt_of_le (hpos h).2 b.size⟩)
      (fun i hi => by
        obtain ⟨A', c', h1, h2⟩ := hkid i hi
        exact ⟨A', c', h1.bel b (hpos (by omega)).2, fun w2 b2 => h2 w2 (b.then_ b2)⟩))
    have hc1 : okCell n.cell := hok.2.2.2.2.2.1
    have hs1 : n.cell.sheet.size ≤ 9223372036854775807 := by have := hc1.1; omega
    have hv0 := hok.2.2.2.2.1.1
    have hv1 := hok.2.2.2.2.1.2.1
    unfold fieldsN at hF
    have hsh := showN_eq n
    by_cases h1 : n.kind = 1
    · rw [if_pos h1] at hF hsh
      have HC := Lib.hid (fun w1 (b : Bel w w1) => printer_constant ⟨n.val.kind, n.val.n, n.val.s⟩ w1 (hG.bel b) hF hv0 hv1)
      have hv : Hid (bs (showN n) = bs (constS ⟨n.val.kind, n.val.n, n.val.s⟩)) := by show _ = _; rw [hsh]
      clear hkid hpos hr hR hB hK hok hl hF hsh hKD hG ih
      unfold nodeV
      go_enter Tryz.func30, Tryz.ntmps30
      go_wp2_with (go_at_call 48; refine (HC.out _ (by (repeat (first | exact Below.refl _ _ | with_reducible assumption | refine bel_ext ?_ _ _ | refine bel_alloc ?_ _ | refine bel_drew ?_ | refine bel_drewN ?_ _ | refine bel_set ?_ (by simp; try omega) _)))).mono ?_; rintro e' w' ⟨rfl, hb'⟩; obtain ⟨d', o', rfl⟩ := hb'.ext; clear hb')
      go_ret
      exact ⟨ret_str hv.out.symm, by (repeat (first | exact Below.refl _ _ | with_reducible assumption | refine bel_ext ?_ _ _ | refine bel_alloc ?_ _ | refine bel_drew ?_ | refine bel_drewN ?_ _ | refine bel_set ?_ (by simp; try omega) _))⟩
    rw [if_neg h1] at hF hsh
    by_cases h2 : n.kind = 2
    · rw [if_pos h2] at hF hsh
      have HC := Lib.hid (fun w1 (b : Bel w w1) => addr_Show ⟨n.cell.sheet, n.cell.col, n.cell.row⟩ hF hs1 w1 (hG.bel b))
      have hv : Hid (bs (showN n) = cellT ⟨n.cell.sheet, n.cell.col, n.cell.row⟩) := by show _ = _; rw [hsh, cellT_eq]
      clear hkid hpos hr hR hB hK hok hl hF hsh hKD hG ih
      unfold nodeV
      go_enter Tryz.func30, Tryz.ntmps30
      go_wp2_with (go_at_call 49; refine (HC.out _ (by (repeat (first | exact Below.refl _ _ | with_reducible assumption | refine bel_ext ?_ _ _ | refine bel_alloc ?_ _ | refine bel_drew ?_ | refine bel_drewN ?_ _ | refine bel_set ?_ (by simp; try omega) _)))).mono ?_; rintro e' w' ⟨rfl, hb'⟩; obtain ⟨d', o', rfl⟩ := hb'.ext; clear hb')
      go_ret
      exact ⟨ret_str hv.out.symm, by (repeat (first | exact Below.refl _ _ | with_reducible assumption | refine bel_ext ?_ _ _ | refine bel_alloc ?_ _ | refine bel_drew ?_ | refine bel_drewN ?_ _ | refine bel_set ?_ (by simp; try omega) _))⟩
    rw [if_neg h2] at hF hsh
    by_cases h7 : n.kind = 7
    · rw [if_neg (by omega), if_neg (by omega), if_neg (by omega), if_neg (by omega)] at hsh
      have hv : Hid (bs (showN n) = ⟨#[82, 69, 70, 33]⟩) := by show _ = _; rw [hsh]; rfl
      clear hkid hpos hr hR hB hK hok hl hF hsh hKD hG ih
      unfold nodeV
      go_enter Tryz.func30, Tryz.ntmps30
      go_wp2
      go_ret
      exact ⟨ret_str hv.out.symm, by (repeat (first | exact Below.refl _ _ | with_reducible assumption | refine bel_ext ?_ _ _ | refine bel_alloc ?_ _ | refine bel_drew ?_ | refine bel_drewN ?_ _ | refine bel_set ?_ (by simp; try omega) _))⟩
    have hW : ∀ v, ∃ W, W = w.alloc (.cells #[.int .i64 n.kind, .string n.op, .string n.name, .int .i64 n.val.kind, .int .i64 n.val.n, .string n.val.s, .string n.cell.sheet, .int .i64 n.cell.col, .int .i64 n.cell.row, .string n.to.sheet, .int .i64 n.to.col, .int .i64 n.to.row, v] 28) ∧ Bel w W ∧ w.heap.size < W.heap.size ∧ nodeAt W w.heap.size 0 n v := fun v => by
      refine ⟨_, rfl, bel1 _ _, by show _ < (Array.push _ _).size; rw [Array.size_push]; omega, ?_⟩
      unfold nodeAt
      refine ⟨?_, ?_, ?_, ?_, ?_, ?_, ?_, ?_, ?_, ?_, ?_, ?_, ?_⟩ <;> exact (World.cell?_alloc_at _ _ _ _ rfl).trans rfl
    obtain ⟨W, hWe, hb0, hsz, hcl⟩ := hW (.slice A n.kids.length c)
    have E1 : (n.kind == 1) = false := by simpa using h1
    have E2 : (n.kind == 2) = false := by simpa using h2
    clear hW
    have hcl0 := Lib.hid hcl
    unfold nodeAt at hcl
    obtain ⟨q0, q1, q2, q3, q4, q5, q6, q7, q8, q9, q10, q11, q12⟩ := hcl
    simp only [Nat.zero_add] at q0 q1 q2 q3 q4 q5 q6 q7 q8 q9 q10 q11 q12
    have hHB : ∀ p : BW W, Bel w p.w' := fun p => hb0.then_ p.h
    by_cases h3 : n.kind = 3
    · rw [if_pos h3] at hF hsh
      have ha : areaOk n.cell n.to = true := by simp [smallR] at hF; exact hF.1
      have hc : rightC n.cell = true ∧ rightC n.to = true := by simp [areaOk] at ha; exact ⟨ha.1, ha.2.1⟩
      have hb1 := rightC_bd hc.1
      have hb2 := rightC_bd hc.2
      have HC := Lib.hid (fun w1 (b : Bel w w1) => addr_Show ⟨n.cell.sheet, n.cell.col, n.cell.row⟩ hc.1 hs1 w1 (hG.bel b))
      have HP := Lib.hid (fun w1 (b : Bel w w1) => addr_Place n.to.sheet n.to.col n.to.row hb2.1 hb2.2.1 hb2.2.2.1 hb2.2.2.2 w1 (hG.bel b))
      have z1 : (cellT ⟨n.cell.sheet, n.cell.col, n.cell.row⟩).size ≤ 32 := by
        have := cellS_len hc.1
        rw [cellT_eq]; show (cellS _).toArray.size ≤ 32; simpa using this
      have z2 := placeT_size n.to.col n.to.row hb2.2.2.1 hb2.2.2.2
      have z3 : (cellT ⟨n.cell.sheet, n.cell.col, n.cell.row⟩ ++ ⟨#[58]⟩ : ByteArray).size ≤ 33 := by rw [ByteArray.size_append]; show _ + 1 ≤ 33; omega
      have hv : Hid (bs (showN n) = cellT ⟨n.cell.sheet, n.cell.col, n.cell.row⟩ ++ ⟨#[58]⟩ ++ placeT n.to.col n.to.row) := by
        show _ = _; rw [hsh, cellT_eq]; unfold placeT bs; apply toList_inj; simp [Lib.toList_data]
      have E3 : (n.kind == 3) = true := by simpa using h3
      clear hkid hpos hr hR hB hK hok hl hF hsh hKD hG ih h1 h2 h7 h3
      generalize cellT ⟨n.cell.sheet, n.cell.col, n.cell.row⟩ = CT at *
      unfold nodeV
      go_enter Tryz.func30, Tryz.ntmps30
      go_wp2
      rw [← hWe]
      clear hWe
      refine wp_region_bw (by kernel_rfl) (by kernel_rfl) ?_
      repeat (go_big_quiet_step (first
        | (go_at_call 49; exact Calls.bw (HC.out _ (hHB _)))
        | (go_at_call 50; exact Calls.bw (HP.out _ (hHB _)))))
      refine wpQuiet_nil ?_
      intro _ hw'
      obtain ⟨pq, hw''⟩ := hw'
      subst hw''
      obtain ⟨d', o', hpq⟩ := pq.h.ext
      rw [hpq]
      go_wp2
      go_ret
      exact ⟨ret_str hv.out.symm, by (repeat (first | exact Below.refl _ _ | with_reducible assumption | refine bel_ext ?_ _ _ | refine bel_alloc ?_ _ | refine bel_drew ?_ | refine bel_drewN ?_ _ | refine bel_set ?_ (by simp; try omega) _))⟩
    rw [if_neg h3] at hF hsh
    by_cases h4 : n.kind = 4
    · rw [if_pos h4] at hF hsh
      obtain ⟨h51, h52⟩ := Bool.and_eq_true_iff.1 hF
      have hop : n.op.toList = [45] := by simpa using h51
      have hk1 : n.kids.length = 1 := by have := of_decide_eq_true h52; omega
      obtain ⟨rfl, hg⟩ := hpos (by omega)
      obtain ⟨A', c', hk3, hk4⟩ := hkid 0 (by omega)
      have hkl := showN_len (nsz n.kids[0]) n.kids[0] (Nat.le_refl _) (hK _ (List.getElem_mem _)) (((intsL_all _).1 ((intsN_eq n).1 hr.ints).2) _ (List.getElem_mem _))
      have hk5 := nsz_kid n 0 (by omega)
      have HC := Lib.hid hk4
      have hv : Hid (bs (showN n) = n.op ++ bs (showN n.kids[0])) := by
        show _ = _
        rw [hsh]
        obtain ⟨x, hx⟩ : ∃ x, n.kids = [x] := List.length_eq_one_iff.1 hk1
        have : (n.kids.map showN).headD [] = showN n.kids[0] := by simp only [hx]; rfl
        rw [this]; unfold bs; apply toList_inj; simp [Lib.toList_data]
      have hcl2 := hk3.bel hb0 hg
      have hgW : g < W.heap.size := by omega
      have hz1 : n.op.size ≤ 1 := by
        have : n.op.size = n.op.toList.length := by rw [Lib.toList_data, len_data]
        rw [this, hop]; decide
      have hz2 : (bs (showN n.kids[0])).size ≤ 200000 := by
        show (showN n.kids[0]).toArray.size ≤ 200000
        simp only [List.size_toArray]; omega
      rw [Nat.zero_mul, Nat.add_zero] at hcl2
      have E3 : (n.kind == 3) = false := by simpa using h3
      have E4 : (n.kind == 4) = true := by simpa using h4
      clear hkid hpos hr hR hB hK hok hl hF hsh hKD hG ih hk3 hk4 hkl hk5 h51 h52 hop h1 h2 h7 h3 h4
      generalize hkd : n.kids[0] = kd at *
      clear hkd
      generalize bs (showN kd) = S at *
      unfold nodeAt at hcl2
      unfold nodeV at HC
      obtain ⟨r0, r1, r2, r3, r4, r5, r6, r7, r8, r9, r10, r11, r12⟩ := hcl2
      rw [hk1] at *
      unfold nodeV
      go_enter Tryz.func30, Tryz.ntmps30
      go_wp2
      rw [← hWe]
      clear hWe
      refine wp_region_bw (by kernel_rfl) (by kernel_rfl) ?_
      repeat (go_big_quiet_step ((go_at_call 30; exact Calls.bw (HC.out _ (hHB _)))))
      refine wpQuiet_nil ?_
      intro _ hw'
      obtain ⟨pq, hw''⟩ := hw'
      subst hw''
      obtain ⟨d', o', hpq⟩ := pq.h.ext
      rw [hpq]
      go_wp2
      go_ret
      exact ⟨ret_str hv.out.symm, by (repeat (first | exact Below.refl _ _ | with_reducible assumption | refine bel_ext ?_ _ _ | refine bel_alloc ?_ _ | refine bel_drew ?_ | refine bel_drewN ?_ _ | refine bel_set ?_ (by simp; try omega) _))⟩
    rw [if_neg h4] at hF hsh
    have E3 : (n.kind == 3) = false := by simpa using h3
    have E4 : (n.kind == 4) = false := by simpa using h4
    have hkeep : ∀ (X : World) (d : Nat) (o : Array Obj) (j : Nat) (v : Value), w.heap.size < X.heap.size → X.cell? ⟨w.heap.size, j, none⟩ = some v → (ext X d o).cell? ⟨w.heap.size, j, none⟩ = some v := fun X d o j v h1 h2 => by rw [cell_ext _ _ _ _ _ h1]; exact h2
    by_cases h5 : n.kind = 5
    · rw [if_pos h5] at hF hsh
      obtain ⟨h51, h52⟩ := Bool.and_eq_true_iff.1 hF
      have hop := isOp_size h51
      have E5 : (n.kind == 5) = true := by simpa using h5
      have hjl : (Lib.join (n.kids.map showN) n.op.data.toList).length ≤ 500 * nsz n := by rw [hsh] at hl; simp at hl; omega
      have HJ := Lib.hid (fun v (w1 : World) (hown : w1.ownsRow W.heap.size 9 1 v n.kids.length (strs n.kids)) => join_own n.kids v W.heap.size n.op w1 hown (by omega) (by omega))
      have hv : Hid (bs (showN n) = ⟨#[40]⟩ ++ bs (Lib.join (n.kids.map showN) n.op.data.toList) ++ ⟨#[41]⟩) := by
        show _ = _
        rw [hsh]; unfold bs; apply toList_inj; simp [Lib.toList_data]
      have z1 : (bs (Lib.join (n.kids.map showN) n.op.data.toList)).size ≤ 200000 := by
        show (List.toArray _).size ≤ 200000
        simp only [List.size_toArray]; omega
      clear hkid hpos hr hR hB hK hok hl hF hsh hG ih h51 h52 hop h1 h2 h7 h3 h4 h5 hjl
      generalize bs (Lib.join (n.kids.map showN) n.op.data.toList) = S at *
      have z2 : (⟨#[40]⟩ ++ S : ByteArray).size ≤ 200001 := by rw [ByteArray.size_append]; show 1 + _ ≤ _; omega
      have y1 : ¬ (9223372036854775807 < 1 + S.size) := by omega
      have y2 : ¬ (9223372036854775806 < 1 + S.size) := by omega
      have y3 : 1 + S.size ≤ 9223372036854775807 := by omega
      have y4 : 1 + S.size ≤ 9223372036854775806 := by omega
      have y5 : ¬ (9223372036854775807 < 1 + S.size + 1) := by omega
      have y6 : ¬ (9223372036854775807 ≤ 1 + S.size) := by omega
      unfold nodeV at hKD
      unfold nodeV
      go_enter Tryz.func30, Tryz.ntmps30
      go_wp2
      rw [← hWe]
      clear hWe
      go_region_held3 (fun w' => w'.cell? ⟨w.heap.size, 0, none⟩ = some (.int .i64 n.kind) ∧ w'.cell? ⟨w.heap.size, 1, none⟩ = some (.string n.op) ∧ w'.cell? ⟨w.heap.size, 2, none⟩ = some (.string n.name) ∧ w'.cell? ⟨w.heap.size, 3, none⟩ = some (.int .i64 n.val.kind) ∧ w'.cell? ⟨w.heap.size, 4, none⟩ = some (.int .i64 n.val.n) ∧ w'.cell? ⟨w.heap.size, 5, none⟩ = some (.string n.val.s) ∧ w'.cell? ⟨w.heap.size, 6, none⟩ = some (.string n.cell.sheet) ∧ w'.cell? ⟨w.heap.size, 7, none⟩ = some (.int .i64 n.cell.col) ∧ w'.cell? ⟨w.heap.size, 8, none⟩ = some (.int .i64 n.cell.row) ∧ w'.cell? ⟨w.heap.size, 9, none⟩ = some (.string n.to.sheet) ∧ w'.cell? ⟨w.heap.size, 10, none⟩ = some (.int .i64 n.to.col) ∧ w'.cell? ⟨w.heap.size, 11, none⟩ = some (.int .i64 n.to.row) ∧ w'.cell? ⟨w.heap.size, 12, none⟩ = some (.slice A n.kids.length c)) (exact nodeAt.bel hcl0.out (by (repeat (first | exact Below.refl _ _ | with_reducible assumption | refine bel_ext ?_ _ _ | refine bel_alloc ?_ _ | refine bel_drew ?_ | refine bel_drewN ?_ _ | refine bel_set ?_ (by simp; try omega) _))) hsz) (first
        | (go_at_call 52; refine (hKD.out _ (by (repeat (first | exact Below.refl _ _ | with_reducible assumption | refine bel_ext ?_ _ _ | refine bel_alloc ?_ _ | refine bel_drew ?_ | refine bel_drewN ?_ _ | refine bel_set ?_ (by simp; try omega) _)))).mono ?_; rintro e' w' ⟨v, rfl, hown, hb'⟩; obtain ⟨d', o', rfl⟩ := hb'.ext; clear hb')
        | (go_at_call 51; refine (HJ.out _ _ (by first | assumption | exact hown)).mono ?_; rintro e' w' ⟨rfl, hb'⟩; obtain ⟨d', o', rfl⟩ := hb'.ext; clear hb'))
      all_goals go_wp2
      all_goals go_ret
      all_goals exact ⟨ret_str hv.out.symm, by (repeat (first | exact Below.refl _ _ | with_reducible assumption | refine bel_ext ?_ _ _ | refine bel_alloc ?_ _ | refine bel_drew ?_ | refine bel_drewN ?_ _ | refine bel_set ?_ (by simp; try omega) _))⟩
    rw [if_neg h5] at hF hsh
    have h6 : n.kind = 6 := by
      by_cases h6 : n.kind = 6
      · exact h6
      · rw [if_neg h6] at hF; simp at hF; omega
    rw [if_pos h6] at hF hsh
    obtain ⟨h51, h52⟩ := Bool.and_eq_true_iff.1 hF
    have hop := callB_size h51
    have E5 : (n.kind == 5) = false := by simpa using h5
    have E6 : (n.kind == 6) = true := by simpa using h6
    have hjl : (Lib.join (n.kids.map showN) (⟨#[44]⟩ : ByteArray).data.toList).length ≤ 500 * nsz n := by
      show (Lib.join (n.kids.map showN) [44]).length ≤ _
      rw [hsh] at hl; simp at hl; omega
    have HJ := Lib.hid (fun v (w1 : World) (hown : w1.ownsRow W.heap.size 9 1 v n.kids.length (strs n.kids)) => join_own n.kids v W.heap.size ⟨#[44]⟩ w1 hown (by omega) (by omega))
    have hv : Hid (bs (showN n) = n.name ++ ⟨#[40]⟩ ++ bs (Lib.join (n.kids.map showN) (⟨#[44]⟩ : ByteArray).data.toList) ++ ⟨#[41]⟩) := by
      show _ = _
      rw [hsh]; unfold bs; apply toList_inj; simp [Lib.toList_data]
    have z1 : (bs (Lib.join (n.kids.map showN) (⟨#[44]⟩ : ByteArray).data.toList)).size ≤ 200000 := by
      have e : ∀ L : Str, (bs L).size = L.length := fun L => List.size_toArray
      rw [e]; omega
    clear hkid hpos hr hR hB hK hok hl hF hsh hG ih h51 h52 h1 h2 h7 h3 h4 h5 h6 hjl
    generalize bs (Lib.join (n.kids.map showN) (⟨#[44]⟩ : ByteArray).data.toList) = S at *
    have z2 : (n.name ++ ⟨#[40]⟩ : ByteArray).size ≤ 9 := by rw [ByteArray.size_append]; show _ + 1 ≤ _; omega
    have z3 : (n.name ++ ⟨#[40]⟩ ++ S : ByteArray).size ≤ 200009 := by rw [ByteArray.size_append]; omega
    have z0 : n.name.size ≤ 8 := by rw [ByteArray.size_append] at z2; have : (⟨#[40]⟩ : ByteArray).size = 1 := rfl; omega
    have y0 : ¬ (9223372036854775806 < n.name.size) := by omega
    have y1 : ¬ (9223372036854775807 < n.name.size + 1 + S.size) := by omega
    have y2 : ¬ (9223372036854775806 < n.name.size + 1 + S.size) := by omega
    have y3 : n.name.size ≤ 9223372036854775806 := by omega
    have y4 : n.name.size + 1 + S.size ≤ 9223372036854775807 := by omega
    have y5 : n.name.size + 1 + S.size ≤ 9223372036854775806 := by omega
    have y6 : ¬ (9223372036854775807 < n.name.size + 1) := by omega
    have y7 : ¬ (9223372036854775807 ≤ n.name.size) := by omega
    have y8 : ¬ (9223372036854775807 < n.name.size + 1 + S.size + 1) := by omega
    have y9 : ¬ (9223372036854775807 ≤ n.name.size + 1 + S.size) := by omega
    unfold nodeV at hKD
    unfold nodeV
    go_enter Tryz.func30, Tryz.ntmps30
    go_wp2
    rw [← hWe]
    clear hWe
    go_region_held3 (fun w' => w'.cell? ⟨w.heap.size, 0, none⟩ = some (.int .i64 n.kind) ∧ w'.cell? ⟨w.heap.size, 1, none⟩ = some (.string n.op) ∧ w'.cell? ⟨w.heap.size, 2, none⟩ = some (.string n.name) ∧ w'.cell? ⟨w.heap.size, 3, none⟩ = some (.int .i64 n.val.kind) ∧ w'.cell? ⟨w.heap.size, 4, none⟩ = some (.int .i64 n.val.n) ∧ w'.cell? ⟨w.heap.size, 5, none⟩ = some (.string n.val.s) ∧ w'.cell? ⟨w.heap.size, 6, none⟩ = some (.string n.cell.sheet) ∧ w'.cell? ⟨w.heap.size, 7, none⟩ = some (.int .i64 n.cell.col) ∧ w'.cell? ⟨w.heap.size, 8, none⟩ = some (.int .i64 n.cell.row) ∧ w'.cell? ⟨w.heap.size, 9, none⟩ = some (.string n.to.sheet) ∧ w'.cell? ⟨w.heap.size, 10, none⟩ = some (.int .i64 n.to.col) ∧ w'.cell? ⟨w.heap.size, 11, none⟩ = some (.int .i64 n.to.row) ∧ w'.cell? ⟨w.heap.size, 12, none⟩ = some (.slice A n.kids.length c)) (exact nodeAt.bel hcl0.out (by (repeat (first | exact Below.refl _ _ | with_reducible assumption | refine bel_ext ?_ _ _ | refine bel_alloc ?_ _ | refine bel_drew ?_ | refine bel_drewN ?_ _ | refine bel_set ?_ (by simp; try omega) _))) hsz) (first
      | (go_at_call 52; refine (hKD.out _ (by (repeat (first | exact Below.refl _ _ | with_reducible assumption | refine bel_ext ?_ _ _ | refine bel_alloc ?_ _ | refine bel_drew ?_ | refine bel_drewN ?_ _ | refine bel_set ?_ (by simp; try omega) _)))).mono ?_; rintro e' w' ⟨v, rfl, hown, hb'⟩; obtain ⟨d', o', rfl⟩ := hb'.ext; clear hb')
      | (go_at_call 51; refine (HJ.out _ _ (by first | assumption | exact hown)).mono ?_; rintro e' w' ⟨rfl, hb'⟩; obtain ⟨d', o', rfl⟩ := hb'.ext; clear hb'))
    all_goals go_wp2
    all_goals go_ret
    all_goals exact ⟨ret_str hv.out.symm, by (repeat (first | exact Below.refl _ _ | with_reducible assumption | refine bel_ext ?_ _ _ | refine bel_alloc ?_ _ | refine bel_drew ?_ | refine bel_drewN ?_ _ | refine bel_set ?_ (by simp; try omega) _))⟩

set_option maxHeartbeats 400000 in
theorem printer_Print (n : GNode) (A : Option Addr) (k c : Nat) (Z : Nat → Prop) (w : World) (hs : nsz n ≤ 400) (hR : rightR n = true) (hd : depthN n ≤ 20) (hr : RdN Z w n (.slice A k c)) (hG : Gl w) :
    Calls Tryz.prog 18 #[nodeV n (.slice A k c)] w fun e w' => e = .returned (.string (bs (showN n))) ∧ Bel w w' := by
  have H1 := Lib.hid (fun w1 (b : Bel w w1) => tree_Right arith_Is n A k c Z w1 hR hd (hr.bel b))
  have H2 := Lib.hid (fun w1 (b : Bel w w1) => printer_show (nsz n) n A k c Z w1 (Nat.le_refl _) hs hR (hr.bel b) (hG.bel b))
  clear hr hR hd hs hG
  unfold nodeV at H1 H2
  unfold nodeV
  go_enter Tryz.func18, Tryz.ntmps18
  go_wp2_with (first
    | (go_at_call 29; refine (H1.out _ (by (repeat (first | exact Below.refl _ _ | with_reducible assumption | refine bel_ext ?_ _ _ | refine bel_alloc ?_ _ | refine bel_drew ?_ | refine bel_drewN ?_ _ | refine bel_set ?_ (by simp; try omega) _)))).mono ?_; rintro e' w' ⟨rfl, hb'⟩; obtain ⟨d', o', rfl⟩ := hb'.ext; clear hb')
    | (go_at_call 30; refine (H2.out _ (by (repeat (first | exact Below.refl _ _ | with_reducible assumption | refine bel_ext ?_ _ _ | refine bel_alloc ?_ _ | refine bel_drew ?_ | refine bel_drewN ?_ _ | refine bel_set ?_ (by simp; try omega) _)))).mono ?_; rintro e' w' ⟨rfl, hb'⟩; obtain ⟨d', o', rfl⟩ := hb'.ext; clear hb'))
  go_ret
  exact ⟨rfl, by (repeat (first | exact Below.refl _ _ | with_reducible assumption | refine bel_ext ?_ _ _ | refine bel_alloc ?_ _ | refine bel_drew ?_ | refine bel_drewN ?_ _ | refine bel_set ?_ (by simp; try omega) _))⟩

end Go.Proofs.YtckalplhaggaoaaGreatDoor
