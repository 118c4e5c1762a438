/- Towards InputBack: what is shown as input is read back as it was, for every entry and every text; no condition. Part 13 of 28. -/
import Derived.Test.YtckalplhaggaoaaGreatDoorX12
import Derived.Deep.RegionHeld3
import Derived.Test.YtckalplhaggaoaaGreatDoorX01
import Derived.Lib.AtoiTie
import Derived.Lib.ItoaMem
set_option linter.unusedVariables false
set_option linter.unusedSimpArgs false
namespace Go.Proofs.YtckalplhaggaoaaGreatDoor
open Go.RowKit

variable {w : World} {p g cap : Nat} {fin bad : Int} {sheet : ByteArray} {ts : List (Int × Int × Str)} {q : Nat}

set_option maxHeartbeats 4000000 in
set_option maxRecDepth 100000 in
theorem parse_one_word (h : PS w p g cap fin sheet bad ts q) (hq : q < ts.length) (hk : tkKind ts q = 3) (n : GNode) (q' : Nat)
    (H : ∀ w1, Bel w w1 → Reads 111 #[.pointer (some ⟨p, 0, none⟩)] p q' n w1) :
    Reads 89 #[.pointer (some ⟨p, 0, none⟩)] p q' n w := by
  have hfw := h.few
  have HK := Lib.hid (fun w1 (b : Bel w w1) => parse_kind (h.bel b) 0 (by omega) (by omega))
  have hkc : ((0 : Nat) : Int) = 0 := rfl
  rw [Nat.add_zero, hk, hkc] at HK
  have HO := Lib.hid H
  have hp := h.plt
  clear H h hk hkc
  unfold Reads at *
  go_enter Tryz.func89, Tryz.ntmps89
  go_wp2_with (go_at_call 61; refine (HK.out _ (by (repeat (first | exact Below.refl _ _ | with_reducible assumption | refine bel_ext ?_ _ _ | refine bel_alloc ?_ _ | refine bel_drew ?_ | refine bel_drewN ?_ _ | refine bel_set ?_ (by simp; try omega) _)))).mono ?_; rintro e' w' ⟨rfl, hb'⟩; obtain ⟨d1, o1, rfl⟩ := hb'.ext; clear hb')
  refine (HO.out _ (by (repeat (first | exact Below.refl _ _ | with_reducible assumption | refine bel_ext ?_ _ _ | refine bel_alloc ?_ _ | refine bel_drew ?_ | refine bel_drewN ?_ _ | refine bel_set ?_ (by simp; try omega) _)))).mono ?_
  rintro e' w' ⟨v, rfl, ⟨A, c, rfl, hr⟩, hb'⟩
  obtain ⟨d2, o2, rfl⟩ := hb'.ext
  rw [mv_ext _ _ _ _ _ (by rw [hsz]; omega), ext_ext] at hr
  unfold nodeV
  go_wp2
  exact bodyPost_ret (v := .tuple #[nodeV n (.slice A n.kids.length c), .bool true]) (by unfold nodeV; simp [results, Tryz.results89, go_sem]) rfl
    ⟨_, rfl, ⟨A, c, rfl, RdN.fin hr (by simp only [hsz, size_setCell]) (by simp only [hsz, size_setCell, size_ext]; omega) (by simp only [hsz, size_setCell, size_ext]; omega)⟩, by (repeat (first | exact Below.refl _ _ | with_reducible assumption | refine bel_ext ?_ _ _ | refine bel_alloc ?_ _ | refine bel_drew ?_ | refine bel_drewN ?_ _ | refine bel_set ?_ (by simp; try omega) _))⟩

set_option maxHeartbeats 4000000 in
set_option maxRecDepth 100000 in
theorem parse_one_name (h : PS w p g cap fin sheet bad ts q) (hq : q < ts.length) (hk : tkKind ts q = 4) (hnm : nameB (bs (tkText ts q)) = true) (hk1 : tkKind ts (q + 1) = 5) (hx1 : tkText ts (q + 1) = [33]) (n : GNode) (q' : Nat)
    (hsz1 : (bs (tkText ts q)).size ≤ 1000)
    (H : ∀ w1, Bel w w1 → Reads 112 #[.pointer (some ⟨p, 0, none⟩), .string (bs (tkText ts q)), .int .i64 2] p q' n w1) :
    Reads 89 #[.pointer (some ⟨p, 0, none⟩)] p q' n w := by
  have hfw := h.few
  have hrm := h.room
  have HK := Lib.hid (fun w1 (b : Bel w w1) => parse_kind (h.bel b) 0 (by omega) (by omega))
  have hkc : ((0 : Nat) : Int) = 0 := rfl
  rw [Nat.add_zero, hk, hkc] at HK
  obtain ⟨k', a', t', ht⟩ : ∃ k' a' t', ts[q]? = some (k', a', t') := ⟨_, _, _, List.getElem?_eq_getElem hq⟩
  have et : tkText ts q = t' := by unfold tkText; rw [ht]
  rw [et] at hnm hsz1 H
  have HS := Lib.hid (fun w1 (b : Bel w w1) => parse_sign (h.bel b) 1 (by omega) (by omega) ⟨#[33]⟩)
  have e33 : (⟨#[33]⟩ : ByteArray).toList = [33] := by rw [Lib.toList_data]
  have hy : ((5 : Int) == 5 && (([33] : Str) == [33])) = true := by decide
  have hkc1 : ((1 : Nat) : Int) = 1 := rfl
  rw [e33, hk1, hx1, hkc1, hy] at HS
  have HN := Lib.hid (fun w1 => addr_Name (bs t') (by omega) w1)
  rw [hnm] at HN
  have HO := Lib.hid H
  have hp := h.plt
  have hql : (q : Int) < ts.length := by omega
  have c0 := h.c0
  have c1 := h.c1
  have hgl := h.glt
  have hne := h.ne
  obtain ⟨t0, t1, t2⟩ := h.tok ht
  have hHB : ∀ (X : World) (pp : BW X), Bel w X → Bel w pp.w' := fun X pp hb => hb.then_ pp.h
  have HPS := Lib.hid h
  clear t0 t1
  clear H h hk hkc hkc1 hk1 hx1 et hy e33 hnm
  unfold Reads at *
  go_enter Tryz.func89, Tryz.ntmps89
  go_wp2_with (go_at_call 61; refine (HK.out _ (by (repeat (first | exact Below.refl _ _ | with_reducible assumption | refine bel_ext ?_ _ _ | refine bel_alloc ?_ _ | refine bel_drew ?_ | refine bel_drewN ?_ _ | refine bel_set ?_ (by simp; try omega) _)))).mono ?_; rintro e' w' ⟨rfl, hb'⟩; obtain ⟨d1, o1, rfl⟩ := hb'.ext; clear hb')
  refine wp_region_bw (by kernel_rfl) (by kernel_rfl) ?_
  repeat (go_big_quiet_step (first
    | (go_at_call 88; exact Calls.bw (HS.out _ (hHB _ _ (by (repeat (first | exact Below.refl _ _ | with_reducible assumption | refine bel_ext ?_ _ _ | refine bel_alloc ?_ _ | refine bel_drew ?_ | refine bel_drewN ?_ _ | refine bel_set ?_ (by simp; try omega) _))))))
    | (go_at_call 42; exact Calls.bw ((HN.out _).mono fun e w' ⟨he, hw⟩ => ⟨he, by rw [hw]; exact Below.refl _ _⟩))))
  refine wpQuiet_nil ?_
  intro _ hw'
  obtain ⟨pq, hw''⟩ := hw'
  subst hw''
  obtain ⟨d2, o2, hpq⟩ := pq.h.ext
  rw [hpq]
  clear hpq hHB HS HN HK
  go_wp2
  rw [ext_ext]
  refine wp_region_held_drew (S := (fun w' => w'.cell? ⟨p, 0, none⟩ = some (.slice (some ⟨g, 0, none⟩) ts.length cap) ∧ w'.cell? ⟨g, q * 3 + 2, none⟩ = some (.string (bs t')))) (by kernel_rfl) ?_ (fun hHeld => ?_)
  · (try dsimp only); refine ⟨(PS.bel HPS.out ?_).c0, ((PS.bel HPS.out ?_).tok ht).2.2⟩ <;> ((repeat (first | exact Below.refl _ _ | with_reducible assumption | refine bel_ext ?_ _ _ | refine bel_alloc ?_ _ | refine bel_drew ?_ | refine bel_drewN ?_ _ | refine bel_set ?_ (by simp; try omega) _)); done)
  (refine wpAnyH_take (i := 0) (oi := _) (v := ?_) rfl (by kernel_rfl) (by kernel_rfl) (by kernel_rfl) (fun _ _ _ h => h) (Or.inl ⟨by rfl, ?_⟩) (by assumption) ?_; rotate_left; · (intro w hSw; (try dsimp only at hSw); go_simp; try with_reducible rfl); try simp only [Act.put, List.setIfInBounds_toArray, List.set_cons_zero, List.set_cons_succ, List.getElem_toArray, List.getElem_cons_zero, List.getElem_cons_succ])
  (refine wpAnyH_take (i := 1) (oi := _) (v := ?_) rfl (by kernel_rfl) (by kernel_rfl) (by kernel_rfl) (fun _ _ _ h => h) (Or.inl ⟨by rfl, ?_⟩) (by assumption) ?_; rotate_left; · (intro w hSw; (try dsimp only at hSw); go_simp; try with_reducible rfl); try simp only [Act.put, List.setIfInBounds_toArray, List.set_cons_zero, List.set_cons_succ, List.getElem_toArray, List.getElem_cons_zero, List.getElem_cons_succ])
  (refine wpAnyH_take (i := 2) (oi := _) (v := ?_) rfl (by kernel_rfl) (by kernel_rfl) (by kernel_rfl) (fun _ _ _ h => h) (Or.inl ⟨by rfl, ?_⟩) (by assumption) ?_; rotate_left; · (intro w hSw; (try dsimp only at hSw); go_simp; try with_reducible rfl); try simp only [Act.put, List.setIfInBounds_toArray, List.set_cons_zero, List.set_cons_succ, List.getElem_toArray, List.getElem_cons_zero, List.getElem_cons_succ])
  (refine wpAnyH_take (i := 3) (oi := _) (v := ?_) rfl (by kernel_rfl) (by kernel_rfl) (by kernel_rfl) (fun _ _ _ h => h) (Or.inl ⟨by rfl, ?_⟩) (by assumption) ?_; rotate_left; · (intro w hSw; (try dsimp only at hSw); go_simp; try with_reducible rfl); try simp only [Act.put, List.setIfInBounds_toArray, List.set_cons_zero, List.set_cons_succ, List.getElem_toArray, List.getElem_cons_zero, List.getElem_cons_succ])
  (refine wpAnyH_take (i := 4) (oi := _) (v := ?_) rfl (by kernel_rfl) (by kernel_rfl) (by kernel_rfl) (fun _ _ _ h => h) (Or.inl ⟨by rfl, ?_⟩) (by assumption) ?_; rotate_left; · (intro w hSw; (try dsimp only at hSw); go_simp; try with_reducible rfl); try simp only [Act.put, List.setIfInBounds_toArray, List.set_cons_zero, List.set_cons_succ, List.getElem_toArray, List.getElem_cons_zero, List.getElem_cons_succ])
  (refine wpAnyH_take (i := 5) (oi := _) (v := ?_) rfl (by kernel_rfl) (by kernel_rfl) (by kernel_rfl) (fun _ _ _ h => h) (Or.inl ⟨by rfl, ?_⟩) (by assumption) ?_; rotate_left; · (intro w hSw; (try dsimp only at hSw); go_simp; try with_reducible rfl); try simp only [Act.put, List.setIfInBounds_toArray, List.set_cons_zero, List.set_cons_succ, List.getElem_toArray, List.getElem_cons_zero, List.getElem_cons_succ])
  (refine wpAnyH_take (i := 6) (oi := _) (v := ?_) rfl (by kernel_rfl) (by kernel_rfl) (by kernel_rfl) (fun _ _ _ h => h) (Or.inl ⟨by rfl, ?_⟩) (by assumption) ?_; rotate_left; · (intro w hSw; (try dsimp only at hSw); go_simp; try with_reducible rfl); try simp only [Act.put, List.setIfInBounds_toArray, List.set_cons_zero, List.set_cons_succ, List.getElem_toArray, List.getElem_cons_zero, List.getElem_cons_succ])
  (refine wpAnyH_take (i := 7) (oi := _) (v := ?_) rfl (by kernel_rfl) (by kernel_rfl) (by kernel_rfl) (fun _ _ _ h => h) (Or.inl ⟨by rfl, ?_⟩) (by assumption) ?_; rotate_left; · (intro w hSw; (try dsimp only at hSw); go_simp; try with_reducible rfl); try simp only [Act.put, List.setIfInBounds_toArray, List.set_cons_zero, List.set_cons_succ, List.getElem_toArray, List.getElem_cons_zero, List.getElem_cons_succ])
  refine wpAnyH_ready (rs := [8]) (by kernel_rfl) (by simp) ?_
  refine AllReadyH.cons rfl (fun K hK => ?_) AllReadyH.nil
  go_simp
  refine hK.out _ _ ?_ (fun hHeld => ?_)
  · (try dsimp only); refine ⟨(PS.bel HPS.out ?_).c0, ((PS.bel HPS.out ?_).tok ht).2.2⟩ <;> ((repeat (first | exact Below.refl _ _ | with_reducible assumption | refine bel_ext ?_ _ _ | refine bel_alloc ?_ _ | refine bel_drew ?_ | refine bel_drewN ?_ _ | refine bel_set ?_ (by simp; try omega) _)); done)
  clear hK K
  try simp only [Act.put, List.setIfInBounds_toArray, List.set_cons_zero, List.set_cons_succ, List.getElem_toArray, List.getElem_cons_zero, List.getElem_cons_succ]
  (refine wpAnyH_take (i := 9) (oi := _) (v := ?_) rfl (by kernel_rfl) (by kernel_rfl) (by kernel_rfl) (fun _ _ _ h => h) (Or.inl ⟨by rfl, ?_⟩) (by assumption) ?_; rotate_left; · (intro w hSw; (try dsimp only at hSw); go_simp; try with_reducible rfl); try simp only [Act.put, List.setIfInBounds_toArray, List.set_cons_zero, List.set_cons_succ, List.getElem_toArray, List.getElem_cons_zero, List.getElem_cons_succ])
  (refine wpAnyH_take (i := 10) (oi := _) (v := ?_) rfl (by kernel_rfl) (by kernel_rfl) (by kernel_rfl) (fun _ _ _ h => h) (Or.inl ⟨by rfl, ?_⟩) (by assumption) ?_; rotate_left; · (intro w hSw; (try dsimp only at hSw); go_simp; try with_reducible rfl); try simp only [Act.put, List.setIfInBounds_toArray, List.set_cons_zero, List.set_cons_succ, List.getElem_toArray, List.getElem_cons_zero, List.getElem_cons_succ])
  (refine wpAnyH_take (i := 11) (oi := _) (v := ?_) rfl (by kernel_rfl) (by kernel_rfl) (by kernel_rfl) (fun _ _ _ h => h) (Or.inl ⟨by rfl, ?_⟩) (by assumption) ?_; rotate_left; · (intro w hSw; (try dsimp only at hSw); go_simp; try with_reducible rfl); try simp only [Act.put, List.setIfInBounds_toArray, List.set_cons_zero, List.set_cons_succ, List.getElem_toArray, List.getElem_cons_zero, List.getElem_cons_succ])
  refine wpAnyH_ready (rs := [12]) (by kernel_rfl) (by simp) ?_
  refine AllReadyH.cons rfl (fun K hK => ?_) AllReadyH.nil
  go_simp
  (go_at_call 112; refine (HO.out _ (by ((repeat (first | exact Below.refl _ _ | with_reducible assumption | refine bel_ext ?_ _ _ | refine bel_alloc ?_ _ | refine bel_drew ?_ | refine bel_drewN ?_ _ | refine bel_set ?_ (by simp; try omega) _)); done))).mono ?_; rintro e' w' ⟨v, rfl, ⟨A, c, rfl, hr⟩, hb'⟩; obtain ⟨d3, o3, rfl⟩ := hb'.ext; clear hb'; unfold nodeV)
  refine hK.out _ _ ?_ (fun hHeld => ?_)
  · (try dsimp only); refine ⟨(PS.to (q' := q') HPS.out ?_).c0, ((PS.to (q' := q') HPS.out ?_).tok ht).2.2⟩ <;> exact bel_ext (bel_mv (bel_ext (bel_alloc (Below.refl _ _) _) _ _) _ _ (by omega)) _ _
  clear hK K
  try simp only [Act.put, List.setIfInBounds_toArray, List.set_cons_zero, List.set_cons_succ, List.getElem_toArray, List.getElem_cons_zero, List.getElem_cons_succ]
  (refine wpAnyH_take (i := 13) (oi := _) (v := ?_) rfl (by kernel_rfl) (by kernel_rfl) (by kernel_rfl) (fun _ _ _ h => h) (Or.inl ⟨by rfl, ?_⟩) (by assumption) ?_; rotate_left; · (intro w hSw; (try dsimp only at hSw); go_simp; try with_reducible rfl); try simp only [Act.put, List.setIfInBounds_toArray, List.set_cons_zero, List.set_cons_succ, List.getElem_toArray, List.getElem_cons_zero, List.getElem_cons_succ])
  (refine wpAnyH_take (i := 14) (oi := _) (v := ?_) rfl (by kernel_rfl) (by kernel_rfl) (by kernel_rfl) (fun _ _ _ h => h) (Or.inl ⟨by rfl, ?_⟩) (by assumption) ?_; rotate_left; · (intro w hSw; (try dsimp only at hSw); go_simp; try with_reducible rfl); try simp only [Act.put, List.setIfInBounds_toArray, List.set_cons_zero, List.set_cons_succ, List.getElem_toArray, List.getElem_cons_zero, List.getElem_cons_succ])
  refine wpAnyH_ready (rs := [15]) (by kernel_rfl) (by simp) ?_
  refine AllReadyH.cons rfl (fun K hK => ?_) AllReadyH.nil
  go_simp
  refine hK.out _ _ ?_ (fun hHeld => ?_)
  · (try dsimp only); refine ⟨(PS.to (q' := q') HPS.out ?_).c0, ((PS.to (q' := q') HPS.out ?_).tok ht).2.2⟩ <;> exact bel_ext (bel_alloc (Below.refl _ _) _) _ _
  clear hK K
  try simp only [Act.put, List.setIfInBounds_toArray, List.set_cons_zero, List.set_cons_succ, List.getElem_toArray, List.getElem_cons_zero, List.getElem_cons_succ]
  (refine wpAnyH_take (i := 16) (oi := _) (v := ?_) rfl (by kernel_rfl) (by kernel_rfl) (by kernel_rfl) (fun _ _ _ h => h) (Or.inl ⟨by rfl, ?_⟩) (by assumption) ?_; rotate_left; · (intro w hSw; (try dsimp only at hSw); go_simp; try with_reducible rfl); try simp only [Act.put, List.setIfInBounds_toArray, List.set_cons_zero, List.set_cons_succ, List.getElem_toArray, List.getElem_cons_zero, List.getElem_cons_succ])
  refine wpAnyH_done (by kernel_rfl) ?_ _
  go_wp2
  rw [mv_ext _ _ _ _ _ (by rw [hsz]; omega), ext_ext, Array.append_assoc] at hr
  exact bodyPost_ret (v := .tuple #[nodeV n (.slice A n.kids.length c), .bool true]) (by unfold nodeV; simp [results, Tryz.results89, go_sem]) rfl
    ⟨_, rfl, ⟨A, c, rfl, RdN.fin hr (by simp only [hsz, size_setCell]) (by simp only [hsz, size_setCell, size_ext]; omega) (by simp only [hsz, size_setCell, size_ext]; omega)⟩, by (repeat (first | exact Below.refl _ _ | with_reducible assumption | refine bel_ext ?_ _ _ | refine bel_alloc ?_ _ | refine bel_drew ?_ | refine bel_drewN ?_ _ | refine bel_set ?_ (by simp; try omega) _ | refine bel_mv ?_ _ _ (by simp [size_setCell, size_ext, World.heap_alloc_size']; try omega) | refine bel_pset ?_ (by simp [size_setCell]; try omega) _))⟩

end Go.Proofs.YtckalplhaggaoaaGreatDoor

namespace Go.Proofs.YtckalplhaggaoaaGreatDoor

theorem parse_snoc : ∀ (l : Str) (acc m : Nat) (c : UInt8), Lib.parseUint10 acc l = .ok m → 48 ≤ c.toNat → c.toNat ≤ 57 → m * 10 + (c.toNat - 48) < 18446744073709551616 → Lib.parseUint10 acc (l ++ [c]) = .ok (m * 10 + (c.toNat - 48))
  | [], acc, m, c, h, h1, h2, h3 => by
    simp only [Lib.parseUint10] at h
    injection h with h
    subst h
    simp only [List.nil_append, Lib.parseUint10]
    rw [if_pos ⟨h1, h2⟩, if_neg (by omega), if_neg (by omega)]
  | x :: r, acc, m, c, h, h1, h2, h3 => by
    simp only [List.cons_append, Lib.parseUint10] at h ⊢
    split at h
    · rename_i hd
      rw [if_pos hd]
      split at h
      · cases h
      · rename_i ha
        rw [if_neg ha]
        split at h
        · cases h
        · rename_i hb
          rw [if_neg hb]
          exact parse_snoc r _ m c h h1 h2 h3
    · cases h
theorem digit_nat (k : Nat) (h : k < 10) : (UInt8.ofNat (48 + k)).toNat = 48 + k := by
  rw [UInt8.toNat_ofNat']; exact Nat.mod_eq_of_lt (by omega)
theorem parse_dec (u : Nat) : u < 18446744073709551616 → Lib.parseUint10 0 (Lib.decDigits u) = .ok u := by
  induction u using Nat.strongRecOn with
  | _ u ih =>
    intro hu
    by_cases h : u < 10
    · have e := digit_nat u h
      rw [Lib.decDigits_one h]
      simp only [Lib.parseUint10, e]
      rw [if_pos ⟨by omega, by omega⟩, if_neg (by omega), if_neg (by omega)]
      congr 1; omega
    · have e := digit_nat (u % 10) (by omega)
      rw [Lib.decDigits, dif_neg h]
      have := parse_snoc _ 0 (u / 10) (UInt8.ofNat (48 + u % 10)) (ih (u / 10) (by omega) (by omega)) (by omega) (by omega) (by omega)
      rw [this, e]
      congr 1; omega
theorem dec_digits (u : Nat) : (Lib.decDigits u).all digitc = true ∧ Lib.decDigits u ≠ [] := by
  induction u using Nat.strongRecOn with
  | _ u ih =>
    by_cases h : u < 10
    · have e := digit_nat u h
      rw [Lib.decDigits_one h]
      refine ⟨?_, by simp⟩
      simp only [List.all_cons, List.all_nil, Bool.and_true, digitc, e]
      simp; omega
    · have e := digit_nat (u % 10) (by omega)
      have h1 := ih (u / 10) (by omega)
      rw [Lib.decDigits, dif_neg h]
      refine ⟨?_, by simp⟩
      rw [List.all_append, h1.1]
      simp only [List.all_cons, List.all_nil, Bool.and_true, Bool.true_and, digitc, e]
      simp; omega
theorem dec_head (u : Nat) : ∃ c r, Lib.decDigits u = c :: r ∧ digitc c = true := by
  obtain ⟨h1, h2⟩ := dec_digits u
  cases hd : Lib.decDigits u with
  | nil => exact absurd hd h2
  | cons c r =>
    rw [hd] at h1
    simp only [List.all_cons, Bool.and_eq_true] at h1
    exact ⟨c, r, rfl, h1.1⟩
theorem atoi_itoa (n : Int) (h0 : -9223372036854775808 ≤ n) (h1 : n ≤ 9223372036854775807) : Lib.atoiAll (Lib.itoa n) = .ok n := by
  by_cases hn : n < 0
  · have e : Lib.itoa n = 45 :: Lib.decDigits n.natAbs := by unfold Lib.itoa; rw [if_pos hn]
    rw [e]
    obtain ⟨_, hne⟩ := dec_digits n.natAbs
    have hp : Lib.parseMag (Lib.decDigits n.natAbs) = .ok n.natAbs := by
      unfold Lib.parseMag; rw [if_neg hne]; exact parse_dec _ (by omega)
    simp only [Lib.atoiAll]
    have e45 : (45 : UInt8).toNat = 45 := rfl
    rw [e45]
    simp only [or_true, if_true, hp, not_true, false_and, if_false, true_and]
    rw [if_neg (by omega)]
    congr 1; omega
  · have e : Lib.itoa n = Lib.decDigits n.toNat := by unfold Lib.itoa; rw [if_neg hn]
    rw [e]
    obtain ⟨c, r, hc, hd⟩ := dec_head n.toNat
    have hp : Lib.parseMag (c :: r) = .ok n.toNat := by
      unfold Lib.parseMag; rw [if_neg (by simp), ← hc]; exact parse_dec _ (by omega)
    have hd2 : 48 ≤ c.toNat := by simp [digitc] at hd; omega
    have hd3 : c.toNat ≤ 57 := by simp [digitc] at hd; omega
    rw [hc]
    simp only [Lib.atoiAll]
    rw [if_neg (by omega)]
    simp only [hp]
    rw [if_neg (by omega), if_neg (by omega), if_neg (by omega)]
    congr 1; omega
theorem itoa_digits (n : Int) (h : 0 ≤ n) : (Lib.itoa n).all digitc = true ∧ Lib.itoa n ≠ [] := by
  have e : Lib.itoa n = Lib.decDigits n.toNat := by unfold Lib.itoa; rw [if_neg (by omega)]
  rw [e]; exact dec_digits _

end Go.Proofs.YtckalplhaggaoaaGreatDoor
