/- Towards InputBack: what is shown as input is read back as it was, for every entry and every text; no condition. Part 15 of 28. -/
import Derived.Test.YtckalplhaggaoaaGreatDoorX14
import Derived.Test.YtckalplhaggaoaaGreatDoorX12
import Derived.RegionTactic
import Derived.BigRegion
import Derived.Test.YtckalplhaggaoaaGreatDoorX13
set_option linter.unusedVariables false
set_option linter.unusedSimpArgs false
namespace Go.Proofs.YtckalplhaggaoaaGreatDoor
open Go.RowKit

theorem letter_nat (n : Int) (h0 : 0 ≤ n) (h1 : n < 26) : ((letter n).toNat : Int) = 65 + n := by
  obtain ⟨k, rfl⟩ : ∃ k : Nat, n = k := ⟨n.toNat, by omega⟩
  have : k < 26 := by omega
  have h : ∀ k, k < 26 → ((letter ((k : Nat) : Int)).toNat : Int) = 65 + ((k : Nat) : Int) := by decide +kernel
  exact h k this
theorem bs_get (l : Str) (i : Nat) (h : i < (bs l).size) (c : UInt8) (hc : l[i]? = some c) : (bs l)[i] = c := by
  have h2 : i < l.length := by have : (bs l).size = l.length := by show l.toArray.size = _; simp
                               omega
  rw [List.getElem?_eq_getElem h2] at hc
  injection hc
theorem bs_size (l : Str) : (bs l).size = l.length := by show l.toArray.size = _; simp
theorem bs_extract (a b : Str) : (bs (a ++ b)).extract a.length (bs (a ++ b)).size = bs b := by
  apply toList_inj
  rw [ext_toList, Lib.toList_data, bs_size]
  simp [bs]
theorem itoa_head (n : Int) (h : 0 ≤ n) : ∃ c r, Lib.itoa n = c :: r ∧ (c.toNat : Int) < 65 := by
  obtain ⟨h1, h2⟩ := itoa_digits n h
  cases hd : Lib.itoa n with
  | nil => exact absurd hd h2
  | cons c r =>
    rw [hd] at h1
    simp only [List.all_cons, Bool.and_eq_true, digitc] at h1
    exact ⟨c, r, rfl, by have := h1.1; simp at this; omega⟩

set_option maxHeartbeats 4000000 in
set_option maxRecDepth 100000 in
theorem addr_At1 (s t : ByteArray) (col row : Int) (h1 : 1 ≤ col) (h2 : col ≤ 26) (h3 : 1 ≤ row) (h4 : row ≤ 999) (hs : s.size ≤ 100) (hl : 2 ≤ s.size)
    (g0 : ∀ h : 0 < s.size, (s[0].toNat : Int) = 65 + (col - 1)) (g1 : ∀ h : 1 < s.size, (s[1].toNat : Int) < 65) (hx : s.extract 1 s.size = t) (ht : t.size ≤ 1000) (hv : Lib.atoiAll t.data.toList = .ok row)
    (hp : placeT col row = s) (w : World) (hG : Gl w) :
    Calls Tryz.prog 138 #[.string s] w fun e w' => e = .returned (.tuple #[.int .i64 col, .int .i64 row, .bool true]) ∧ Bel w w' := by
  have hp0 : 0 < s.size := by omega
  have hp1 : 1 < s.size := by omega
  have k0 := g0 hp0
  have k1 := g1 hp1
  have HA := Lib.hid (fun w1 => strconv_Atoi t ht row hv w1)
  have HP := Lib.hid (fun w1 => addr_place ⟨⟨#[]⟩, col, row⟩ w1)
  have hpb : placeB ⟨⟨#[]⟩, col, row⟩ = true := by simp [placeB]; omega
  rw [hpb] at HP
  have HQ := Lib.hid (fun w1 (b : Bel w w1) => addr_Place ⟨#[]⟩ col row h1 (by omega) h3 h4 w1 (hG.bel b))
  rw [hp] at HQ
  have hsl : (s.toList == s.toList) = true := by simp
  clear g0 g1 hG hp hpb hv
  have h0l : (0 : Int) < s.size := by omega
  have h1l : (1 : Int) < s.size := by omega
  have hge : (65 : Int) ≤ (s[0].toNat : Int) := by omega
  have hle : (s[0].toNat : Int) ≤ 90 := by omega
  have hw : IntKind.u8.wrap ((s[0].toNat : Int) - 65) = col - 1 := by rw [IntKind.wrap_u8]; omega
  have hcb : 0 ≤ col - 1 := by omega
  have hcc : col - 1 ≤ 25 := by omega
  clear k0 h2 hs
  go_enter Tryz.func138, Tryz.ntmps138
  go_wp2
  refine wp_loop_rounds 2 ?_
  rw [rounds_succ]
  go_wp2
  go_region
  go_wp2
  rw [rounds_succ]
  go_wp2_with (first
    | (go_at_call 35; refine (HA.out _).mono ?_; rintro e' w' ⟨rfl, hb'⟩; obtain ⟨d1, o1, rfl⟩ := hb'.ext; clear hb')
    | (go_at_call 98; refine (HP.out _).mono ?_; rintro e' w' ⟨rfl, hb'⟩; obtain ⟨d2, o2, rfl⟩ := hb'.ext; clear hb')
    | (go_at_call 50; refine (HQ.out _ (by (repeat (first | exact Below.refl _ _ | with_reducible assumption | refine bel_ext ?_ _ _ | refine bel_alloc ?_ _ | refine bel_drew ?_ | refine bel_drewN ?_ _ | refine bel_set ?_ (by simp; try omega) _)))).mono ?_; rintro e' w' ⟨rfl, hb'⟩; obtain ⟨d3, o3, rfl⟩ := hb'.ext; clear hb'))
  go_quiet (fail)
  go_wp2
  exact bodyPost_ret (v := .tuple #[.int .i64 col, .int .i64 row, .bool true]) (by simp [results, Tryz.results138, go_sem]) rfl ⟨rfl, by (repeat (first | exact Below.refl _ _ | with_reducible assumption | refine bel_ext ?_ _ _ | refine bel_alloc ?_ _ | refine bel_drew ?_ | refine bel_drewN ?_ _ | refine bel_set ?_ (by simp; try omega) _))⟩

set_option maxHeartbeats 4000000 in
set_option maxRecDepth 100000 in
theorem addr_At2 (s t : ByteArray) (a b row : Int) (ha : 0 ≤ a) (ha2 : a ≤ 25) (hb : 0 ≤ b) (hb2 : b ≤ 25) (h3 : 1 ≤ row) (h4 : row ≤ 999) (hl : 3 ≤ s.size) (hs : s.size ≤ 100)
    (g0 : ∀ h : 0 < s.size, (s[0].toNat : Int) = 65 + a) (g1 : ∀ h : 1 < s.size, (s[1].toNat : Int) = 65 + b) (hx : s.extract 2 s.size = t) (ht : t.size ≤ 1000) (hv : Lib.atoiAll t.data.toList = .ok row)
    (hp : placeT ((a + 1) * 26 + b + 1) row = s) (w : World) (hG : Gl w) :
    Calls Tryz.prog 138 #[.string s] w fun e w' => e = .returned (.tuple #[.int .i64 ((a + 1) * 26 + b + 1), .int .i64 row, .bool true]) ∧ Bel w w' := by
  have hp0 : 0 < s.size := by omega
  have hp1 : 1 < s.size := by omega
  have k0 := g0 hp0
  have k1 := g1 hp1
  have HA := Lib.hid (fun w1 => strconv_Atoi t ht row hv w1)
  have HP := Lib.hid (fun w1 => addr_place ⟨⟨#[]⟩, (a + 1) * 26 + b + 1, row⟩ w1)
  have hpb : placeB ⟨⟨#[]⟩, (a + 1) * 26 + b + 1, row⟩ = true := by simp [placeB]; omega
  rw [hpb] at HP
  have HQ := Lib.hid (fun w1 (h : Bel w w1) => addr_Place ⟨#[]⟩ ((a + 1) * 26 + b + 1) row (by omega) (by omega) h3 h4 w1 (hG.bel h))
  rw [hp] at HQ
  have hsl : (s.toList == s.toList) = true := by simp
  clear g0 g1 hG hp hpb hv
  have h0l : (0 : Int) < s.size := by omega
  have h1l : (1 : Int) < s.size := by omega
  have h2l : (2 : Int) ≤ s.size := by omega
  have h2m : (2 : Int) < s.size := by omega
  have hge : (65 : Int) ≤ (s[0].toNat : Int) := by omega
  have hle : (s[0].toNat : Int) ≤ 90 := by omega
  have hge1 : (65 : Int) ≤ (s[1].toNat : Int) := by omega
  have hle1 : (s[1].toNat : Int) ≤ 90 := by omega
  have hw : IntKind.u8.wrap ((s[0].toNat : Int) - 65) = a := by rw [IntKind.wrap_u8]; omega
  have hw1 : IntKind.u8.wrap ((s[1].toNat : Int) - 65) = b := by rw [IntKind.wrap_u8]; omega
  clear k0 k1 hs
  go_enter Tryz.func138, Tryz.ntmps138
  go_wp2
  refine wp_loop_rounds 3 ?_
  rw [rounds_succ]
  go_wp2
  go_region
  go_wp2
  rw [rounds_succ]
  go_wp2
  go_region
  go_wp2
  rw [rounds_succ]
  go_wp2_with (first
    | (go_at_call 35; refine (HA.out _).mono ?_; rintro e' w' ⟨rfl, hb'⟩; obtain ⟨d1, o1, rfl⟩ := hb'.ext; clear hb')
    | (go_at_call 98; refine (HP.out _).mono ?_; rintro e' w' ⟨rfl, hb'⟩; obtain ⟨d2, o2, rfl⟩ := hb'.ext; clear hb')
    | (go_at_call 50; refine (HQ.out _ (by (repeat (first | exact Below.refl _ _ | with_reducible assumption | refine bel_ext ?_ _ _ | refine bel_alloc ?_ _ | refine bel_drew ?_ | refine bel_drewN ?_ _ | refine bel_set ?_ (by simp; try omega) _)))).mono ?_; rintro e' w' ⟨rfl, hb'⟩; obtain ⟨d3, o3, rfl⟩ := hb'.ext; clear hb'))
  go_quiet (fail)
  go_wp2
  exact bodyPost_ret (v := .tuple #[.int .i64 ((a + 1) * 26 + b + 1), .int .i64 row, .bool true]) (by simp [results, Tryz.results138, go_sem]) rfl ⟨rfl, by (repeat (first | exact Below.refl _ _ | with_reducible assumption | refine bel_ext ?_ _ _ | refine bel_alloc ?_ _ | refine bel_drew ?_ | refine bel_drewN ?_ _ | refine bel_set ?_ (by simp; try omega) _))⟩

theorem itoa_len (row : Int) (h3 : 1 ≤ row) (h4 : row ≤ 999) : (Lib.itoa row).length ≤ 21 := Lib.itoa_length_le row (by omega) (by omega)
theorem addr_At (col row : Int) (h1 : 1 ≤ col) (h2 : col ≤ 702) (h3 : 1 ≤ row) (h4 : row ≤ 999) (w : World) (hG : Gl w) :
    Calls Tryz.prog 138 #[.string (placeT col row)] w fun e w' => e = .returned (.tuple #[.int .i64 col, .int .i64 row, .bool true]) ∧ Bel w w' := by
  have hil := itoa_len row h3 h4
  have hat := atoi_itoa row (by omega) (by omega)
  obtain ⟨c, r, hcr, hc⟩ := itoa_head row (by omega)
  have hsz : (placeT col row).size = (placeS col row).length := bs_size _
  have hbd : (bs (Lib.itoa row)).data.toList = Lib.itoa row := by simp [bs]
  by_cases h : 26 < col
  · have hS : placeS col row = letter ((col - 1) / 26 - 1) :: letter ((col - 1) % 26) :: Lib.itoa row := by unfold placeS; rw [if_pos h]; rfl
    have hc2 : (((col - 1) / 26 - 1) + 1) * 26 + (col - 1) % 26 + 1 = col := by omega
    have hl : (placeT col row).size = (Lib.itoa row).length + 2 := by rw [hsz, hS]; simp
    have hp : 1 ≤ (Lib.itoa row).length := by rw [hcr]; simp
    have := addr_At2 (placeT col row) (bs (Lib.itoa row)) ((col - 1) / 26 - 1) ((col - 1) % 26) row (by omega) (by omega) (by omega) (by omega) h3 h4 (by omega) (by omega)
      (fun hh => by show ((bs (placeS col row))[0].toNat : Int) = _; rw [bs_get (placeS col row) 0 hh (letter ((col - 1) / 26 - 1)) (by rw [hS]; rfl)]; exact letter_nat _ (by omega) (by omega))
      (fun hh => by show ((bs (placeS col row))[1].toNat : Int) = _; rw [bs_get (placeS col row) 1 hh (letter ((col - 1) % 26)) (by rw [hS]; rfl)]; exact letter_nat _ (by omega) (by omega))
      (by
        have := bs_extract [letter ((col - 1) / 26 - 1), letter ((col - 1) % 26)] (Lib.itoa row)
        unfold placeT
        rw [hS]; exact this)
      (by rw [bs_size]; omega) (by rw [hbd]; exact hat) (by rw [hc2]) w hG
    rwa [hc2] at this
  · have hS : placeS col row = letter ((col - 1) % 26) :: Lib.itoa row := by unfold placeS; rw [if_neg h]; rfl
    have hm : (col - 1) % 26 = col - 1 := by omega
    have hl : (placeT col row).size = (Lib.itoa row).length + 1 := by rw [hsz, hS]; simp
    have hp : 1 ≤ (Lib.itoa row).length := by rw [hcr]; simp
    exact addr_At1 (placeT col row) (bs (Lib.itoa row)) col row h1 (by omega) h3 h4 (by omega) (by omega)
      (fun hh => by show ((bs (placeS col row))[0].toNat : Int) = _; rw [bs_get (placeS col row) 0 hh (letter ((col - 1) % 26)) (by rw [hS]; rfl), hm]; exact letter_nat _ (by omega) (by omega))
      (fun hh => by show ((bs (placeS col row))[1].toNat : Int) < _; rw [bs_get (placeS col row) 1 hh c (by rw [hS, hcr]; rfl)]; exact hc)
      (by
        have := bs_extract [letter ((col - 1) % 26)] (Lib.itoa row)
        unfold placeT
        rw [hS]; exact this)
      (by rw [bs_size]; omega) (by rw [hbd]; exact hat) rfl w hG

end Go.Proofs.YtckalplhaggaoaaGreatDoor

namespace Go.Proofs.YtckalplhaggaoaaGreatDoor
open Go.RowKit

variable {w : World} {p g cap : Nat} {fin bad : Int} {sheet : ByteArray} {ts : List (Int × Int × Str)} {q : Nat}

set_option maxHeartbeats 4000000 in
set_option maxRecDepth 100000 in
theorem parse_place (h : PS w p g cap fin sheet bad ts q) (hG : Gl w) (d : Nat) (hd : d ≤ 10) (hq : q + d < ts.length) (hk : tkKind ts (q + d) = 3) (c r : Int) (hx : tkText ts (q + d) = placeS c r)
    (h1 : 1 ≤ c) (h2 : c ≤ 702) (h3 : 1 ≤ r) (h4 : r ≤ 999) (s : ByteArray) :
    Calls Tryz.prog 129 #[.pointer (some ⟨p, 0, none⟩), .int .i64 (d : Int), .string s] w fun e w' => e = .returned (.tuple #[.agg #[.string s, .int .i64 c, .int .i64 r], .bool true]) ∧ Bel w w' := by
  have hfw := h.few
  have hrm := h.room
  have HK := Lib.hid (fun w1 (b : Bel w w1) => parse_kind (h.bel b) d hd (by omega))
  rw [hk] at HK
  obtain ⟨k', a', t', ht⟩ : ∃ k' a' t', ts[q + d]? = some (k', a', t') := ⟨_, _, _, List.getElem?_eq_getElem hq⟩
  have et : bs t' = placeT c r := by unfold placeT; rw [← hx]; unfold tkText; rw [ht]
  have HA := Lib.hid (fun w1 (b : Bel w w1) => addr_At c r h1 h2 h3 h4 w1 (hG.bel b))
  rw [← et] at HA
  have c0 := h.c0
  have c1 := h.c1
  have hp := h.plt
  have hgl := h.glt
  obtain ⟨t0, t1, t2⟩ := h.tok ht
  have hw : IntKind.i64.wrap ((q : Int) + d) = ((q + d : Nat) : Int) := by rw [IntKind.wrap_i64]; omega
  have hql : ((q + d : Nat) : Int) < ts.length := by omega
  have hHB : ∀ (X : World) (pp : BW X), Bel w X → Bel w pp.w' := fun X pp hb => hb.then_ pp.h
  clear h hG et ht hx hk h1 h2 h3 h4 t0 t1
  generalize q + d = e at *
  go_enter Tryz.func129, Tryz.ntmps129
  go_wp2_with (go_at_call 61; refine (HK.out _ (by (repeat (first | exact Below.refl _ _ | with_reducible assumption | refine bel_ext ?_ _ _ | refine bel_alloc ?_ _ | refine bel_drew ?_ | refine bel_drewN ?_ _ | refine bel_set ?_ (by simp; try omega) _)))).mono ?_; rintro e' w' ⟨rfl, hb'⟩; obtain ⟨d1, o1, rfl⟩ := hb'.ext; clear hb')
  refine wp_region_bw (by kernel_rfl) (by kernel_rfl) ?_
  repeat (go_big_quiet_step (first
    | (go_at_call 138; exact Calls.bw (HA.out _ (hHB _ _ (by (repeat (first | exact Below.refl _ _ | with_reducible assumption | refine bel_ext ?_ _ _ | refine bel_alloc ?_ _ | refine bel_drew ?_ | refine bel_drewN ?_ _ | refine bel_set ?_ (by simp; try omega) _))))))))
  refine wpQuiet_nil ?_
  intro _ hw'
  obtain ⟨pq, hw''⟩ := hw'
  subst hw''
  obtain ⟨d2, o2, hpq⟩ := pq.h.ext
  rw [hpq]
  clear hpq hHB HA HK
  go_wp2
  exact bodyPost_ret (v := .tuple #[.agg #[.string s, .int .i64 c, .int .i64 r], .bool true]) (by simp [results, Tryz.results129, go_sem]) rfl ⟨rfl, by (repeat (first | exact Below.refl _ _ | with_reducible assumption | refine bel_ext ?_ _ _ | refine bel_alloc ?_ _ | refine bel_drew ?_ | refine bel_drewN ?_ _ | refine bel_set ?_ (by simp; try omega) _))⟩

theorem okVal_zero : okVal GVal.zero := ⟨by decide, by decide, by show (0 : Nat) ≤ _; decide⟩
theorem okCell_zero : okCell GCell.zero := ⟨by show (0 : Nat) ≤ _; decide, by decide, by decide, by decide, by decide⟩
def cellN (c : GCell) : GNode := ⟨2, ⟨#[]⟩, ⟨#[]⟩, GVal.zero, c, GCell.zero, []⟩
theorem cellN_ok (c : GCell) (h : okCell c) : okTop (cellN c) :=
  ⟨by show (-9223372036854775808 : Int) ≤ 2; decide, by show (2 : Int) ≤ _; decide, by show (0 : Nat) ≤ _; decide, by show (0 : Nat) ≤ _; decide, okVal_zero, h, okCell_zero, by show (0 : Nat) ≤ _; decide⟩
def rangeN (a b : GCell) : GNode := ⟨3, ⟨#[]⟩, ⟨#[]⟩, GVal.zero, a, b, []⟩
theorem rangeN_ok (a b : GCell) (h : okCell a) (k : okCell b) : okTop (rangeN a b) :=
  ⟨by show (-9223372036854775808 : Int) ≤ 3; decide, by show (3 : Int) ≤ _; decide, by show (0 : Nat) ≤ _; decide, by show (0 : Nat) ≤ _; decide, okVal_zero, h, k, by show (0 : Nat) ≤ _; decide⟩

set_option maxHeartbeats 4000000 in
set_option maxRecDepth 100000 in
theorem parse_cell_one (h : PS w p g cap fin sheet bad ts q) (hG : Gl w) (hq : q + 2 < ts.length) (hk : tkKind ts (q + 2) = 3) (s : ByteArray) (c r : Int) (hx : tkText ts (q + 2) = placeS c r)
    (h1 : 1 ≤ c) (h2 : c ≤ 702) (h3 : 1 ≤ r) (h4 : r ≤ 999) (hs : s.size ≤ 1000) (hno : (tkKind ts (q + 3) == 5 && (tkText ts (q + 3) == [58])) = false) :
    Reads 112 #[.pointer (some ⟨p, 0, none⟩), .string s, .int .i64 2] p (q + 3) (cellN ⟨s, c, r⟩) w := by
  have hfw := h.few
  have HP := Lib.hid (fun w1 (b : Bel w w1) => parse_place (h.bel b) (hG.bel b) 2 (by omega) hq hk c r hx h1 h2 h3 h4 s)
  have HS := Lib.hid (fun w1 (b : Bel w w1) => parse_sign (h.bel b) 3 (by omega) (by omega) ⟨#[58]⟩)
  have e58 : (⟨#[58]⟩ : ByteArray).toList = [58] := by rw [Lib.toList_data]
  have hkc : ((3 : Nat) : Int) = 3 := rfl
  have hkc2 : ((2 : Nat) : Int) = 2 := rfl
  rw [e58, hkc, hno] at HS
  rw [hkc2] at HP
  have c1 := h.c1
  have f1 := h.fz 1
  have hp := h.plt
  have hq2 : q ≤ 1000 := by omega
  have hok : okCell ⟨s, c, r⟩ := ⟨by show s.size ≤ _; omega, by show _ ≤ c; omega, by show c ≤ _; omega, by show _ ≤ r; omega, by show r ≤ _; omega⟩
  clear h hG hx hk hno e58 hkc hkc2 h1 h2 h3 h4
  unfold Reads
  go_enter Tryz.func112, Tryz.ntmps112
  go_wp2_with (first
    | (go_at_call 129; refine (HP.out _ (by (repeat (first | exact Below.refl _ _ | with_reducible assumption | refine bel_ext ?_ _ _ | refine bel_alloc ?_ _ | refine bel_drew ?_ | refine bel_drewN ?_ _ | refine bel_set ?_ (by simp; try omega) _)))).mono ?_; rintro e' w' ⟨rfl, hb'⟩; obtain ⟨d1, o1, rfl⟩ := hb'.ext; clear hb')
    | (go_at_call 88; refine (HS.out _ (by (repeat (first | exact Below.refl _ _ | with_reducible assumption | refine bel_ext ?_ _ _ | refine bel_alloc ?_ _ | refine bel_drew ?_ | refine bel_drewN ?_ _ | refine bel_set ?_ (by simp; try omega) _)))).mono ?_; rintro e' w' ⟨rfl, hb'⟩; obtain ⟨d2, o2, rfl⟩ := hb'.ext; clear hb'))
  have e3 : (q : Int) + 3 = ((q + 3 : Nat) : Int) := by omega
  rw [e3]
  refine bodyPost_ret (v := .tuple #[nodeV (cellN ⟨s, c, r⟩) (.slice none 0 0), .bool true]) (by unfold nodeV cellN; simp [results, Tryz.results112, go_sem, GNode.zero, GVal.zero, GCell.zero]) rfl ⟨_, rfl, NodeR.leaf (cellN_ok _ hok) rfl, by (repeat (first | exact Below.refl _ _ | with_reducible assumption | refine bel_ext ?_ _ _ | refine bel_alloc ?_ _ | refine bel_drew ?_ | refine bel_drewN ?_ _ | refine bel_set ?_ (by simp; try omega) _ | refine bel_mv ?_ _ _ (by simp [size_setCell, size_ext, World.heap_alloc_size']; try omega) | refine bel_pset ?_ (by simp [size_setCell]; try omega) _))⟩

set_option maxHeartbeats 4000000 in
set_option maxRecDepth 100000 in
theorem parse_cell_range (h : PS w p g cap fin sheet bad ts q) (hG : Gl w) (hq : q + 4 < ts.length) (hk : tkKind ts (q + 2) = 3) (s : ByteArray) (a b : GCell) (hx : tkText ts (q + 2) = placeS a.col a.row)
    (hk1 : tkKind ts (q + 3) = 5) (hx1 : tkText ts (q + 3) = [58]) (hk2 : tkKind ts (q + 4) = 3) (hx2 : tkText ts (q + 4) = placeS b.col b.row) (hsa : a.sheet = s) (hsb : b.sheet = s)
    (hR : smallR a b = true) :
    Reads 112 #[.pointer (some ⟨p, 0, none⟩), .string s, .int .i64 2] p (q + 5) (rangeN a b) w := by
  have hfw := h.few
  have hra := rightC_bd (small_cells hR).1
  have hrb := rightC_bd (small_cells hR).2
  have hss : s.size ≤ 8 := by rw [← hsa]; exact rightC_size (small_cells hR).1
  have HP := Lib.hid (fun w1 (b : Bel w w1) => parse_place (h.bel b) (hG.bel b) 2 (by omega) (by omega) hk a.col a.row hx (by omega) (by omega) (by omega) (by omega) s)
  have HP2 := Lib.hid (fun w1 (b' : Bel w w1) => parse_place (h.bel b') (hG.bel b') 4 (by omega) (by omega) hk2 b.col b.row hx2 (by omega) (by omega) (by omega) (by omega) s)
  have HS := Lib.hid (fun w1 (b : Bel w w1) => parse_sign (h.bel b) 3 (by omega) (by omega) ⟨#[58]⟩)
  have e58 : (⟨#[58]⟩ : ByteArray).toList = [58] := by rw [Lib.toList_data]
  have hkc : ((3 : Nat) : Int) = 3 := rfl
  have hkc2 : ((2 : Nat) : Int) = 2 := rfl
  have hkc4 : ((4 : Nat) : Int) = 4 := rfl
  have hy : ((5 : Int) == 5 && (([58] : Str) == [58])) = true := by decide
  rw [e58, hkc, hk1, hx1, hy] at HS
  rw [hkc2] at HP
  rw [hkc4] at HP2
  have oka : okCell a := ⟨by rw [hsa]; omega, by omega, by omega, by omega, by omega⟩
  have okb : okCell b := ⟨by rw [hsb]; omega, by omega, by omega, by omega, by omega⟩
  have HR := Lib.hid (fun w1 => addr_Small a b oka okb w1)
  rw [hR, hsa, hsb] at HR
  have c1 := h.c1
  have f1 := h.fz 1
  have hp := h.plt
  have hq2 : q ≤ 1000 := by omega
  clear h hG hx hk hy e58 hkc hkc2 hkc4 hk1 hx1 hk2 hx2 hR hra hrb
  unfold Reads
  go_enter Tryz.func112, Tryz.ntmps112
  go_wp2_with (first
    | (go_at_call 129; refine (HP.out _ (by (repeat (first | exact Below.refl _ _ | with_reducible assumption | refine bel_ext ?_ _ _ | refine bel_alloc ?_ _ | refine bel_drew ?_ | refine bel_drewN ?_ _ | refine bel_set ?_ (by simp; try omega) _)))).mono ?_; rintro e' w' ⟨rfl, hb'⟩; obtain ⟨d1, o1, rfl⟩ := hb'.ext; clear hb' HP)
    | (go_at_call 129; refine (HP2.out _ (by (repeat (first | exact Below.refl _ _ | with_reducible assumption | refine bel_ext ?_ _ _ | refine bel_alloc ?_ _ | refine bel_drew ?_ | refine bel_drewN ?_ _ | refine bel_set ?_ (by simp; try omega) _)))).mono ?_; rintro e' w' ⟨rfl, hb'⟩; obtain ⟨d3, o3, rfl⟩ := hb'.ext; clear hb' HP2)
    | (go_at_call 88; refine (HS.out _ (by (repeat (first | exact Below.refl _ _ | with_reducible assumption | refine bel_ext ?_ _ _ | refine bel_alloc ?_ _ | refine bel_drew ?_ | refine bel_drewN ?_ _ | refine bel_set ?_ (by simp; try omega) _)))).mono ?_; rintro e' w' ⟨rfl, hb'⟩; obtain ⟨d2, o2, rfl⟩ := hb'.ext; clear hb')
    | (go_at_call 92; refine (HR.out _).mono ?_; rintro e' w' ⟨rfl, hb'⟩; obtain ⟨d4, o4, rfl⟩ := hb'.ext; clear hb'))
  have e5 : (q : Int) + 5 = ((q + 5 : Nat) : Int) := by omega
  rw [e5]
  refine bodyPost_ret (v := .tuple #[nodeV (rangeN a b) (.slice none 0 0), .bool true]) (by unfold nodeV rangeN; simp [results, Tryz.results112, go_sem, GNode.zero, GVal.zero, GCell.zero, hsa, hsb]) rfl ⟨_, rfl, NodeR.leaf (rangeN_ok _ _ oka okb) rfl, by (repeat (first | exact Below.refl _ _ | with_reducible assumption | refine bel_ext ?_ _ _ | refine bel_alloc ?_ _ | refine bel_drew ?_ | refine bel_drewN ?_ _ | refine bel_set ?_ (by simp; try omega) _ | refine bel_mv ?_ _ _ (by simp [size_setCell, size_ext, World.heap_alloc_size']; try omega) | refine bel_pset ?_ (by simp [size_setCell]; try omega) _))⟩

end Go.Proofs.YtckalplhaggaoaaGreatDoor
