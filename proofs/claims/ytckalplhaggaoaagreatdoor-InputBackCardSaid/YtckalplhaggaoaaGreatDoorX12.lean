/- Towards InputBack: what is shown as input is read back as it was, for every entry and every text; no condition. Part 12 of 28. -/
import Derived.Test.YtckalplhaggaoaaGreatDoorX11
import Derived.Test.YtckalplhaggaoaaGreatDoorX02
set_option linter.unusedVariables false
set_option linter.unusedSimpArgs false
namespace Go.Proofs.YtckalplhaggaoaaGreatDoor
open Go.RowKit

variable {w : World} {p g cap : Nat} {fin bad : Int} {sheet : ByteArray} {ts : List (Int × Int × Str)} {q : Nat}

/-- A constant's node. -/
def nodeK (v : GVal) : GNode := { GNode.zero with kind := 1, val := v }
theorem nodeK_ok (v : GVal) (h : okVal v) : okTop (nodeK v) := by
  unfold okTop okCell nodeK GNode.zero GCell.zero
  simp
  exact ⟨by decide, h, by decide⟩
set_option maxHeartbeats 800000 in
theorem parse_constant (v : GVal) (w : World) :
    Calls Tryz.prog 110 #[.agg #[.int .i64 v.kind, .int .i64 v.n, .string v.s]] w fun e w' => e = .returned (.tuple #[nodeV (nodeK v) (.slice none 0 0), .bool true]) ∧ Bel w w' := by
  go_enter Tryz.func110, Tryz.ntmps110
  go_wp2
  exact bodyPost_ret (v := .tuple #[nodeV (nodeK v) (.slice none 0 0), .bool true]) (by unfold nodeV nodeK; simp [results, Tryz.results110, go_sem, GNode.zero, GVal.zero, GCell.zero]) rfl ⟨rfl, by (repeat (first | exact Below.refl _ _ | with_reducible assumption | refine bel_ext ?_ _ _ | refine bel_alloc ?_ _ | refine bel_drew ?_ | refine bel_drewN ?_ _ | refine bel_set ?_ (by simp; try omega) _))⟩

theorem NodeR.leaf {B : Nat} {n : GNode} {w' : World} (hok : okTop n) (hk : n.kids = []) : NodeR B n (.slice none 0 0) w' := by
  obtain ⟨a1, a2, a3, a4, a5, a6, kids⟩ := n
  simp only at hk
  subst hk
  refine ⟨none, 0, rfl, ?_⟩
  unfold RdN
  exact ⟨hok, none, 0, rfl, Nat.le_refl _, fun h => absurd h (by simp)⟩

end Go.Proofs.YtckalplhaggaoaaGreatDoor

namespace Go.Proofs.YtckalplhaggaoaaGreatDoor
open Go.RowKit

variable {w : World} {p g cap : Nat} {fin bad : Int} {sheet : ByteArray} {ts : List (Int × Int × Str)} {q : Nat}

set_option maxHeartbeats 1600000 in
set_option maxRecDepth 100000 in
theorem parse_one_text (h : PS w p g cap fin sheet bad ts q) (hq : q < ts.length) (hk : tkKind ts q = 2) (hs : (tkText ts q).length ≤ 200) :
    Reads 89 #[.pointer (some ⟨p, 0, none⟩)] p (q + 1) (nodeK ⟨2, 0, bs (tkText ts q)⟩) w := by
  have hfw := h.few
  have HK := Lib.hid (fun w1 (b : Bel w w1) => parse_kind (h.bel b) 0 (by omega) (by omega))
  rw [Nat.add_zero, hk] at HK
  have hkc : ((0 : Nat) : Int) = 0 := rfl
  rw [hkc] at HK
  have HT := Lib.hid (fun w1 (b : Bel w w1) => parse_take (h.bel b) hq)
  have HX := Lib.hid (fun w1 => arith_Text (bs (tkText ts q)) w1)
  have htx : valV (textV (bs (tkText ts q))) = .agg #[.int .i64 2, .int .i64 0, .string (bs (tkText ts q))] := by
    have : ¬ (200 : Int) < (bs (tkText ts q)).size := by
      show ¬ (200 : Int) < (List.toArray (tkText ts q)).size
      simp only [List.size_toArray]; omega
    unfold textV
    rw [if_neg this]; rfl
  rw [htx] at HX
  have HC := Lib.hid (fun w1 => parse_constant ⟨2, 0, bs (tkText ts q)⟩ w1)
  have hok : okVal ⟨2, 0, bs (tkText ts q)⟩ := by
    unfold okVal
    refine ⟨by simp, by simp, ?_⟩
    show (List.toArray (tkText ts q)).size ≤ _
    simp only [List.size_toArray]; omega
  have hp := h.plt
  clear h hk hs htx hkc
  generalize bs (tkText ts q) = S at *
  unfold Reads
  unfold nodeV nodeK at HC
  go_enter Tryz.func89, Tryz.ntmps89
  go_wp2_with (first
    | (go_at_call 61; refine (HK.out _ (by (repeat (first | exact Below.refl _ _ | with_reducible assumption | refine bel_ext ?_ _ _ | refine bel_alloc ?_ _ | refine bel_drew ?_ | refine bel_drewN ?_ _ | refine bel_set ?_ (by simp; try omega) _)))).mono ?_; rintro e' w' ⟨rfl, hb'⟩; obtain ⟨d1, o1, rfl⟩ := hb'.ext; clear hb')
    | (go_at_call 63; refine (HT.out _ (by (repeat (first | exact Below.refl _ _ | with_reducible assumption | refine bel_ext ?_ _ _ | refine bel_alloc ?_ _ | refine bel_drew ?_ | refine bel_drewN ?_ _ | refine bel_set ?_ (by simp; try omega) _)))).mono ?_; rintro e' w' ⟨rfl, hb'⟩; obtain ⟨d2, o2, rfl⟩ := hb'.ext; clear hb')
    | (go_at_call 38; refine (HX.out _).mono ?_; rintro e' w' ⟨rfl, hb'⟩; obtain ⟨d3, o3, rfl⟩ := hb'.ext; clear hb')
    | (go_at_call 110; refine (HC.out _).mono ?_; rintro e' w' ⟨rfl, hb'⟩; obtain ⟨d4, o4, rfl⟩ := hb'.ext; clear hb'))
  refine bodyPost_ret (v := .tuple #[nodeV (nodeK ⟨2, 0, S⟩) (.slice none 0 0), .bool true]) (by unfold nodeV nodeK; simp [results, Tryz.results89, go_sem, GNode.zero, GVal.zero, GCell.zero]) rfl
    ⟨_, rfl, NodeR.leaf (nodeK_ok _ hok) rfl, by (repeat (first | exact Below.refl _ _ | with_reducible assumption | refine bel_ext ?_ _ _ | refine bel_alloc ?_ _ | refine bel_drew ?_ | refine bel_drewN ?_ _ | refine bel_set ?_ (by simp; try omega) _ | refine bel_mv ?_ _ _ (by simp [size_setCell, size_ext, World.heap_alloc_size']; try omega) | refine bel_pset ?_ (by simp [size_setCell]; try omega) _))⟩

set_option maxHeartbeats 8000000 in
set_option maxRecDepth 100000 in
theorem parse_one_paren (h : PS w p g cap fin sheet bad ts q) (hq : q < ts.length) (hk : tkKind ts q = 5) (hx : tkText ts q = [40]) (n : GNode) (q1 : Nat) (hq1 : q1 < ts.length) (hk1 : tkKind ts q1 = 5) (hx1 : tkText ts q1 = [41])
    (H : ∀ w1, Bel (mv w p (q + 1)) w1 → Reads 43 #[.pointer (some ⟨p, 0, none⟩), .int .i64 0] p q1 n w1) :
    Reads 89 #[.pointer (some ⟨p, 0, none⟩)] p (q1 + 1) n w := by
  have hfw := h.few
  have hkc : ((0 : Nat) : Int) = 0 := rfl
  have HK := Lib.hid (fun w1 (b : Bel w w1) => parse_kind (h.bel b) 0 (by omega) (by omega))
  rw [Nat.add_zero, hk, hkc] at HK
  have HS := Lib.hid (fun w1 (b : Bel w w1) => parse_sign (h.bel b) 0 (by omega) (by omega) ⟨#[40]⟩)
  have e40 : (⟨#[40]⟩ : ByteArray).toList = [40] := by rw [Lib.toList_data]
  have hy : ((5 : Int) == 5 && (([40] : Str) == [40])) = true := by decide
  rw [Nat.add_zero, e40, hk, hx, hkc, hy] at HS
  have HT := Lib.hid (fun w1 (b : Bel w w1) => parse_take (h.bel b) hq)
  have HO := Lib.hid H
  have hp := h.plt
  have Hh := Lib.hid h
  clear h H hk hx e40
  unfold Reads at *
  go_enter Tryz.func89, Tryz.ntmps89
  go_wp2_with (first
    | (go_at_call 61; refine (HK.out _ (by (repeat (first | exact Below.refl _ _ | with_reducible assumption | refine bel_ext ?_ _ _ | refine bel_alloc ?_ _ | refine bel_drew ?_ | refine bel_drewN ?_ _ | refine bel_set ?_ (by simp; try omega) _)))).mono ?_; rintro e' w' ⟨rfl, hb'⟩; obtain ⟨d1, o1, rfl⟩ := hb'.ext; clear hb')
    | (go_at_call 88; refine (HS.out _ (by (repeat (first | exact Below.refl _ _ | with_reducible assumption | refine bel_ext ?_ _ _ | refine bel_alloc ?_ _ | refine bel_drew ?_ | refine bel_drewN ?_ _ | refine bel_set ?_ (by simp; try omega) _)))).mono ?_; rintro e' w' ⟨rfl, hb'⟩; obtain ⟨d2, o2, rfl⟩ := hb'.ext; clear hb')
    | (go_at_call 63; refine (HT.out _ (by (repeat (first | exact Below.refl _ _ | with_reducible assumption | refine bel_ext ?_ _ _ | refine bel_alloc ?_ _ | refine bel_drew ?_ | refine bel_drewN ?_ _ | refine bel_set ?_ (by simp; try omega) _)))).mono ?_; rintro e' w' ⟨rfl, hb'⟩; obtain ⟨d3, o3, rfl⟩ := hb'.ext; clear hb'))
  have e1 : (q : Int) + 1 = ((q + 1 : Nat) : Int) := by omega
  rw [e1]
  refine (HO.out _ (by (repeat (first | exact Below.refl _ _ | with_reducible assumption | refine bel_ext ?_ _ _ | refine bel_alloc ?_ _ | refine bel_drew ?_ | refine bel_drewN ?_ _ | refine bel_set ?_ (by simp; try omega) _)))).mono ?_
  rintro e' w' ⟨v, rfl, ⟨A, c, rfl, hr⟩, hb'⟩
  obtain ⟨d4, o4, rfl⟩ := hb'.ext
  have hps4 := PS.to (((Hh.out.mv (q + 1)).bel (show Bel _ _ by (repeat (first | exact Below.refl _ _ | with_reducible assumption | refine bel_ext ?_ _ _ | refine bel_alloc ?_ _ | refine bel_drew ?_ | refine bel_drewN ?_ _ | refine bel_set ?_ (by simp; try omega) _))))) hb'
  clear hb'
  rw [mv_ext _ _ _ _ _ (by rw [hsz, size_setCell]; omega), mv_alloc _ _ _ _ (by rw [size_setCell]; exact hp), mv_mv, ext_ext] at hr hps4 ⊢
  have hr2 := RdN.fin (B' := w.heap.size + 1) (d' := d4) hr rfl (by simp only [hsz, size_setCell, size_ext]; omega) (by simp only [hsz, size_setCell, size_ext]; omega)
  clear hr HK HS HT HO
  generalize hX : ext _ _ _ = X at hr2 hps4 ⊢
  have hXs : w.heap.size + 1 ≤ X.heap.size := by rw [← hX]; simp only [hsz, size_setCell, size_ext]; omega
  have HS2 := Lib.hid (fun w1 (b : Bel X w1) => parse_sign (hps4.bel b) 0 (by omega) (by omega) ⟨#[41]⟩)
  have e41 : (⟨#[41]⟩ : ByteArray).toList = [41] := by rw [Lib.toList_data]
  have hy2 : ((5 : Int) == 5 && (([41] : Str) == [41])) = true := by decide
  rw [Nat.add_zero, e41, hk1, hx1, hkc, hy2] at HS2
  have HT2 := Lib.hid (fun w1 (b : Bel X w1) => parse_take (hps4.bel b) hq1)
  have hpX := hps4.plt
  clear hps4 e41 hy hy2
  unfold nodeV
  go_wp2_with (go_at_call 88; refine (HS2.out _ (by (repeat (first | exact Below.refl _ _ | with_reducible assumption | refine bel_ext ?_ _ _ | refine bel_alloc ?_ _ | refine bel_drew ?_ | refine bel_drewN ?_ _ | refine bel_set ?_ (by simp; try omega) _)))).mono ?_; rintro e' w' ⟨rfl, hb'⟩; obtain ⟨d5, o5, rfl⟩ := hb'.ext; clear hb')
  refine (HT2.out _ (by (repeat (first | exact Below.refl _ _ | with_reducible assumption | refine bel_ext ?_ _ _ | refine bel_alloc ?_ _ | refine bel_drew ?_ | refine bel_drewN ?_ _ | refine bel_set ?_ (by simp; try omega) _)))).mono ?_
  rintro e' w' ⟨rfl, hb'⟩
  obtain ⟨d6, o6, rfl⟩ := hb'.ext
  clear hb' HS2 HT2
  rw [mv_ext _ _ _ _ _ (by rw [hsz]; omega), mv_alloc _ _ _ _ hpX, ext_ext]
  rw [← hX, mv_ext _ _ _ _ _ (by rw [hsz, size_setCell]; omega), mv_alloc _ _ _ _ (by rw [size_setCell]; exact hp), mv_mv]
  rw [← hX] at hr2
  go_wp2
  simp only [Array.append_assoc] at hr2
  refine bodyPost_ret (v := .tuple #[nodeV n (.slice A n.kids.length c), .bool true]) (by unfold nodeV; simp [results, Tryz.results89, go_sem]) rfl ?_
  refine ⟨_, rfl, ⟨A, c, rfl, ?_⟩, ?_⟩
  · exact RdN.bel (RdN.fin (d' := d4) hr2 (by simp only [hsz, size_setCell]) (by simp only [hsz, size_setCell]; omega) (by omega)) (bel_ext (bel_alloc (Below.refl _ _) _) _ _)
  · exact bel_ext (bel_alloc (bel_ext (bel_alloc (Below.refl _ _) _) _ _) _) _ _

end Go.Proofs.YtckalplhaggaoaaGreatDoor

namespace Go.Proofs.YtckalplhaggaoaaGreatDoor
open Go.RowKit

theorem bel_bytes (w : World) (e : TypeId) (t : ByteArray) : Bel w (Lib.bytesWorld w e t) := by
  refine ⟨rfl, rfl, rfl, ?_, fun k hk => ?_⟩
  · simp [Lib.bytesWorld, World.freeze, World.alloc]
  · simp [Lib.bytesWorld, World.freeze, World.alloc, Array.getElem?_modify, Array.getElem?_push]
    have : ¬ w.heap.size = k := by omega
    have h2 : ¬ k = w.heap.size := by omega
    simp [this, h2]
    rfl
theorem strconv_Atoi (s : ByteArray) (hs : s.size ≤ 1000) (v : Int) (h : Lib.atoiAll s.data.toList = .ok v) (w : World) :
    Calls Tryz.prog 35 #[.string s] w fun e w' => e = .returned (.tuple #[.int .i64 v, .nilIface]) ∧ Bel w w' := by
  refine (Tryz.strconv_Atoi_ok s (by omega) v h w).mono ?_
  rintro e w' ⟨he, hw⟩
  refine ⟨he, ?_⟩
  rcases hw with rfl | ⟨t, rfl⟩
  · exact Below.refl _ _
  · exact bel_bytes _ _ _

end Go.Proofs.YtckalplhaggaoaaGreatDoor

namespace Go.Proofs.YtckalplhaggaoaaGreatDoor
open Go.RowKit

variable {w : World} {p g cap : Nat} {fin bad : Int} {sheet : ByteArray} {ts : List (Int × Int × Str)} {q : Nat}

set_option maxHeartbeats 4000000 in
set_option maxRecDepth 100000 in
theorem parse_one_num (h : PS w p g cap fin sheet bad ts q) (hq : q < ts.length) (hk : tkKind ts q = 1) (v : Int) (hv : Lib.atoiAll (tkText ts q) = .ok v) (hv0 : -9223372036854775808 ≤ v) (hv1 : v ≤ 9223372036854775807) (hs : (tkText ts q).length ≤ 200) :
    Reads 89 #[.pointer (some ⟨p, 0, none⟩)] p (q + 1) (nodeK ⟨1, v, ⟨#[]⟩⟩) w := by
  have hfw := h.few
  have hrm := h.room
  have HK := Lib.hid (fun w1 (b : Bel w w1) => parse_kind (h.bel b) 0 (by omega) (by omega))
  rw [Nat.add_zero, hk] at HK
  have hkc : ((0 : Nat) : Int) = 0 := rfl
  rw [hkc] at HK
  obtain ⟨k', a', t', ht⟩ : ∃ k' a' t', ts[q]? = some (k', a', t') := ⟨_, _, _, List.getElem?_eq_getElem hq⟩
  have et : tkText ts q = t' := by unfold tkText; rw [ht]
  have HT := Lib.hid (fun w1 (b : Bel w w1) => parse_take (h.bel b) hq)
  rw [et] at HT hv hs
  have HA := Lib.hid (fun w1 => strconv_Atoi (bs t') (by show (List.toArray t').size ≤ _; simp only [List.size_toArray]; omega) v hv w1)
  have HX := Lib.hid (fun w1 => arith_Int v w1)
  have HC := Lib.hid (fun w1 => parse_constant ⟨1, v, ⟨#[]⟩⟩ w1)
  have hok : okVal ⟨1, v, ⟨#[]⟩⟩ := ⟨hv0, hv1, by show (0 : Nat) ≤ _; omega⟩
  have hp := h.plt
  have hql : (q : Int) < ts.length := by omega
  have Hh := Lib.hid h
  clear h hk hs hkc hv et hv0 hv1
  unfold Reads
  unfold nodeV nodeK at HC
  go_enter Tryz.func89, Tryz.ntmps89
  go_wp2_with (go_at_call 61; refine (HK.out _ (by (repeat (first | exact Below.refl _ _ | with_reducible assumption | refine bel_ext ?_ _ _ | refine bel_alloc ?_ _ | refine bel_drew ?_ | refine bel_drewN ?_ _ | refine bel_set ?_ (by simp; try omega) _)))).mono ?_; rintro e' w' ⟨rfl, hb'⟩; obtain ⟨d1, o1, rfl⟩ := hb'.ext; clear hb')
  generalize hX : ext _ _ _ = X
  have hbX : Bel w X := by rw [← hX]; (repeat (first | exact Below.refl _ _ | with_reducible assumption | refine bel_ext ?_ _ _ | refine bel_alloc ?_ _ | refine bel_drew ?_ | refine bel_drewN ?_ _ | refine bel_set ?_ (by simp; try omega) _))
  have hps := Hh.out.bel hbX
  have c0 := hps.c0
  have c1 := hps.c1
  have hpX := hps.plt
  have hgX := hps.glt
  obtain ⟨t0, t1, t2⟩ := hps.tok ht
  have hHB : ∀ pp : BW X, Bel X pp.w' := fun pp => pp.h
  refine wp_region_bw (by kernel_rfl) (by kernel_rfl) ?_
  repeat (go_big_quiet_step ((go_at_call 35; exact Calls.bw (HA.out _))))
  refine wpQuiet_nil ?_
  intro _ hw'
  obtain ⟨pq, hw''⟩ := hw'
  subst hw''
  obtain ⟨d2, o2, hpq⟩ := pq.h.ext
  rw [hpq]
  clear hpq hHB t0 t1 t2 c0 c1 hps hpX hgX hbX
  subst hX
  go_wp2_with (first
    | (go_at_call 63; refine (HT.out _ (by (repeat (first | exact Below.refl _ _ | with_reducible assumption | refine bel_ext ?_ _ _ | refine bel_alloc ?_ _ | refine bel_drew ?_ | refine bel_drewN ?_ _ | refine bel_set ?_ (by simp; try omega) _)))).mono ?_; rintro e' w' ⟨rfl, hb'⟩; obtain ⟨d3, o3, rfl⟩ := hb'.ext; clear hb')
    | (go_at_call 36; refine (HX.out _).mono ?_; rintro e' w' ⟨rfl, hb'⟩; obtain ⟨d4, o4, rfl⟩ := hb'.ext; clear hb')
    | (go_at_call 110; refine (HC.out _).mono ?_; rintro e' w' ⟨rfl, hb'⟩; obtain ⟨d5, o5, rfl⟩ := hb'.ext; clear hb'))
  refine bodyPost_ret (v := .tuple #[nodeV (nodeK ⟨1, v, ⟨#[]⟩⟩) (.slice none 0 0), .bool true]) (by unfold nodeV nodeK; simp [results, Tryz.results89, go_sem, GNode.zero, GVal.zero, GCell.zero]) rfl
    ⟨_, rfl, NodeR.leaf (nodeK_ok _ hok) rfl, by (repeat (first | exact Below.refl _ _ | with_reducible assumption | refine bel_ext ?_ _ _ | refine bel_alloc ?_ _ | refine bel_drew ?_ | refine bel_drewN ?_ _ | refine bel_set ?_ (by simp; try omega) _ | refine bel_mv ?_ _ _ (by simp [size_setCell, size_ext, World.heap_alloc_size']; try omega) | refine bel_pset ?_ (by simp [size_setCell]; try omega) _))⟩

end Go.Proofs.YtckalplhaggaoaaGreatDoor

namespace Go.Proofs.YtckalplhaggaoaaGreatDoor
open Go.RowKit

variable {w : World} {p g cap : Nat} {fin bad : Int} {sheet : ByteArray} {ts : List (Int × Int × Str)} {q : Nat}

theorem nodeK_bool (k : Int) (h0 : 0 ≤ k) (h1 : k ≤ 1) : okTop (nodeK ⟨3, k, ⟨#[]⟩⟩) := nodeK_ok _ ⟨by show -9223372036854775808 ≤ k; omega, by show k ≤ 9223372036854775807; omega, by show (0 : Nat) ≤ _; omega⟩

set_option maxHeartbeats 4000000 in
set_option maxRecDepth 100000 in
theorem parse_word_true (h : PS w p g cap fin sheet bad ts q) (hq : q < ts.length) (hx : tkText ts q = [84, 82, 85, 69]) :
    Reads 111 #[.pointer (some ⟨p, 0, none⟩)] p (q + 1) (nodeK ⟨3, 1, ⟨#[]⟩⟩) w := by
  have hfw := h.few
  have hrm := h.room
  obtain ⟨k', a', t', ht⟩ : ∃ k' a' t', ts[q]? = some (k', a', t') := ⟨_, _, _, List.getElem?_eq_getElem hq⟩
  have et : tkText ts q = t' := by unfold tkText; rw [ht]
  have HT := Lib.hid (fun w1 (b : Bel w w1) => parse_take (h.bel b) hq)
  rw [et] at HT hx
  have HX := Lib.hid (fun w1 => arith_Bool true w1)
  simp only [if_true] at HX
  have HC := Lib.hid (fun w1 => parse_constant ⟨3, 1, ⟨#[]⟩⟩ w1)
  have c0 := h.c0
  have c1 := h.c1
  have hp := h.plt
  have hgl := h.glt
  obtain ⟨t0, t1, t2⟩ := h.tok ht
  have hql : (q : Int) < ts.length := by omega
  have x1 : ((bs t').toList == [84, 82, 85, 69]) = true := by rw [Lib.toList_data]; show (t' == _) = _; rw [hx]; rfl
  clear h et ht hx t0 t1
  generalize bs t' = S at *
  unfold Reads
  unfold nodeV nodeK at HC
  go_enter Tryz.func111, Tryz.ntmps111
  go_wp2
  refine wp_region_bw (by kernel_rfl) (by kernel_rfl) ?_
  repeat (go_big_quiet_step (fail))
  refine wpQuiet_nil ?_
  intro _ hw'
  obtain ⟨pq, hw''⟩ := hw'
  subst hw''
  obtain ⟨d2, o2, hpq⟩ := pq.h.ext
  rw [hpq]
  clear hpq c0 c1 t2 hgl hrm
  go_wp2_with (first
    | (go_at_call 63; refine (HT.out _ (by (repeat (first | exact Below.refl _ _ | with_reducible assumption | refine bel_ext ?_ _ _ | refine bel_alloc ?_ _ | refine bel_drew ?_ | refine bel_drewN ?_ _ | refine bel_set ?_ (by simp; try omega) _)))).mono ?_; rintro e' w' ⟨rfl, hb'⟩; obtain ⟨d3, o3, rfl⟩ := hb'.ext; clear hb')
    | (go_at_call 37; refine (HX.out _).mono ?_; rintro e' w' ⟨rfl, hb'⟩; obtain ⟨d4, o4, rfl⟩ := hb'.ext; clear hb')
    | (go_at_call 110; refine (HC.out _).mono ?_; rintro e' w' ⟨rfl, hb'⟩; obtain ⟨d5, o5, rfl⟩ := hb'.ext; clear hb'))
  refine bodyPost_ret (v := .tuple #[nodeV (nodeK ⟨3, 1, ⟨#[]⟩⟩) (.slice none 0 0), .bool true]) (by unfold nodeV nodeK; simp [results, Tryz.results111, go_sem, GNode.zero, GVal.zero, GCell.zero]) rfl ⟨_, rfl, NodeR.leaf (nodeK_bool 1 (by decide) (by decide)) rfl, by (repeat (first | exact Below.refl _ _ | with_reducible assumption | refine bel_ext ?_ _ _ | refine bel_alloc ?_ _ | refine bel_drew ?_ | refine bel_drewN ?_ _ | refine bel_set ?_ (by simp; try omega) _ | refine bel_mv ?_ _ _ (by simp [size_setCell, size_ext, World.heap_alloc_size']; try omega) | refine bel_pset ?_ (by simp [size_setCell]; try omega) _))⟩

set_option maxHeartbeats 4000000 in
set_option maxRecDepth 100000 in
theorem parse_word_false (h : PS w p g cap fin sheet bad ts q) (hq : q < ts.length) (hx : tkText ts q = [70, 65, 76, 83, 69]) :
    Reads 111 #[.pointer (some ⟨p, 0, none⟩)] p (q + 1) (nodeK ⟨3, 0, ⟨#[]⟩⟩) w := by
  have hfw := h.few
  have hrm := h.room
  obtain ⟨k', a', t', ht⟩ : ∃ k' a' t', ts[q]? = some (k', a', t') := ⟨_, _, _, List.getElem?_eq_getElem hq⟩
  have et : tkText ts q = t' := by unfold tkText; rw [ht]
  have HT := Lib.hid (fun w1 (b : Bel w w1) => parse_take (h.bel b) hq)
  rw [et] at HT hx
  have HX := Lib.hid (fun w1 => arith_Bool false w1)
  simp only [Bool.false_eq_true, if_false] at HX
  have HC := Lib.hid (fun w1 => parse_constant ⟨3, 0, ⟨#[]⟩⟩ w1)
  have c0 := h.c0
  have c1 := h.c1
  have hp := h.plt
  have hgl := h.glt
  obtain ⟨t0, t1, t2⟩ := h.tok ht
  have hql : (q : Int) < ts.length := by omega
  have x1 : ((bs t').toList == [84, 82, 85, 69]) = false := by rw [Lib.toList_data]; show (t' == _) = _; rw [hx]; rfl
  have x2 : ((bs t').toList == [70, 65, 76, 83, 69]) = true := by rw [Lib.toList_data]; show (t' == _) = _; rw [hx]; rfl
  clear h et ht hx t0 t1
  generalize bs t' = S at *
  unfold Reads
  unfold nodeV nodeK at HC
  go_enter Tryz.func111, Tryz.ntmps111
  go_wp2
  refine wp_region_bw (by kernel_rfl) (by kernel_rfl) ?_
  repeat (go_big_quiet_step (fail))
  refine wpQuiet_nil ?_
  intro _ hw'
  obtain ⟨pq, hw''⟩ := hw'
  subst hw''
  obtain ⟨d2, o2, hpq⟩ := pq.h.ext
  rw [hpq]
  clear hpq c0 c1 t2 hgl hrm
  go_wp2_with (first
    | (go_at_call 63; refine (HT.out _ (by (repeat (first | exact Below.refl _ _ | with_reducible assumption | refine bel_ext ?_ _ _ | refine bel_alloc ?_ _ | refine bel_drew ?_ | refine bel_drewN ?_ _ | refine bel_set ?_ (by simp; try omega) _)))).mono ?_; rintro e' w' ⟨rfl, hb'⟩; obtain ⟨d3, o3, rfl⟩ := hb'.ext; clear hb')
    | (go_at_call 37; refine (HX.out _).mono ?_; rintro e' w' ⟨rfl, hb'⟩; obtain ⟨d4, o4, rfl⟩ := hb'.ext; clear hb')
    | (go_at_call 110; refine (HC.out _).mono ?_; rintro e' w' ⟨rfl, hb'⟩; obtain ⟨d5, o5, rfl⟩ := hb'.ext; clear hb'))
  refine bodyPost_ret (v := .tuple #[nodeV (nodeK ⟨3, 0, ⟨#[]⟩⟩) (.slice none 0 0), .bool true]) (by unfold nodeV nodeK; simp [results, Tryz.results111, go_sem, GNode.zero, GVal.zero, GCell.zero]) rfl ⟨_, rfl, NodeR.leaf (nodeK_bool 0 (by decide) (by decide)) rfl, by (repeat (first | exact Below.refl _ _ | with_reducible assumption | refine bel_ext ?_ _ _ | refine bel_alloc ?_ _ | refine bel_drew ?_ | refine bel_drewN ?_ _ | refine bel_set ?_ (by simp; try omega) _ | refine bel_mv ?_ _ _ (by simp [size_setCell, size_ext, World.heap_alloc_size']; try omega) | refine bel_pset ?_ (by simp [size_setCell]; try omega) _))⟩

def lostN : GNode := { GNode.zero with kind := 7 }
theorem lostN_ok : okTop lostN := by
  unfold okTop okVal okCell lostN GNode.zero GVal.zero GCell.zero
  simp
  decide

set_option maxHeartbeats 4000000 in
set_option maxRecDepth 100000 in
theorem parse_word_lost (h : PS w p g cap fin sheet bad ts q) (hq : q < ts.length) (hx : tkText ts q = [82, 69, 70]) (hk1 : tkKind ts (q + 1) = 5) (hx1 : tkText ts (q + 1) = [33]) :
    Reads 111 #[.pointer (some ⟨p, 0, none⟩)] p (q + 2) lostN w := by
  have hfw := h.few
  have hrm := h.room
  obtain ⟨k', a', t', ht⟩ : ∃ k' a' t', ts[q]? = some (k', a', t') := ⟨_, _, _, List.getElem?_eq_getElem hq⟩
  have et : tkText ts q = t' := by unfold tkText; rw [ht]
  rw [et] at hx
  have HS := Lib.hid (fun w1 (b : Bel w w1) => parse_sign (h.bel b) 1 (by omega) (by omega) ⟨#[33]⟩)
  have e33 : (⟨#[33]⟩ : ByteArray).toList = [33] := by rw [Lib.toList_data]
  have hy : ((5 : Int) == 5 && (([33] : Str) == [33])) = true := by decide
  have hkc : ((1 : Nat) : Int) = 1 := rfl
  rw [e33, hk1, hx1, hkc, hy] at HS
  have c0 := h.c0
  have c1 := h.c1
  have f1 := h.fz 1
  have hp := h.plt
  have hgl := h.glt
  obtain ⟨t0, t1, t2⟩ := h.tok ht
  have hql : (q : Int) < ts.length := by omega
  have x1 : ((bs t').toList == [84, 82, 85, 69]) = false := by rw [Lib.toList_data]; show (t' == _) = _; rw [hx]; rfl
  have x2 : ((bs t').toList == [70, 65, 76, 83, 69]) = false := by rw [Lib.toList_data]; show (t' == _) = _; rw [hx]; rfl
  have x3 : ((bs t').toList == [82, 69, 70]) = true := by rw [Lib.toList_data]; show (t' == _) = _; rw [hx]; rfl
  have hq2 : q ≤ 1000 := by omega
  clear h et ht hx t0 t1 e33 hy hkc hk1 hx1
  generalize bs t' = S at *
  unfold Reads
  go_enter Tryz.func111, Tryz.ntmps111
  go_wp2
  refine wp_region_bw (by kernel_rfl) (by kernel_rfl) ?_
  repeat (go_big_quiet_step (fail))
  refine wpQuiet_nil ?_
  intro _ hw'
  obtain ⟨pq, hw''⟩ := hw'
  subst hw''
  obtain ⟨d2, o2, hpq⟩ := pq.h.ext
  rw [hpq]
  clear hpq c0 t2 hgl hrm
  go_wp2_with (go_at_call 88; refine (HS.out _ (by (repeat (first | exact Below.refl _ _ | with_reducible assumption | refine bel_ext ?_ _ _ | refine bel_alloc ?_ _ | refine bel_drew ?_ | refine bel_drewN ?_ _ | refine bel_set ?_ (by simp; try omega) _)))).mono ?_; rintro e' w' ⟨rfl, hb'⟩; obtain ⟨d3, o3, rfl⟩ := hb'.ext; clear hb')
  have e2 : (q : Int) + 2 = ((q + 2 : Nat) : Int) := by omega
  rw [e2]
  refine bodyPost_ret (v := .tuple #[nodeV lostN (.slice none 0 0), .bool true]) (by unfold nodeV lostN; simp [results, Tryz.results111, go_sem, GNode.zero, GVal.zero, GCell.zero]) rfl ⟨_, rfl, NodeR.leaf lostN_ok rfl, by (repeat (first | exact Below.refl _ _ | with_reducible assumption | refine bel_ext ?_ _ _ | refine bel_alloc ?_ _ | refine bel_drew ?_ | refine bel_drewN ?_ _ | refine bel_set ?_ (by simp; try omega) _ | refine bel_mv ?_ _ _ (by simp [size_setCell, size_ext, World.heap_alloc_size']; try omega) | refine bel_pset ?_ (by simp [size_setCell]; try omega) _))⟩

end Go.Proofs.YtckalplhaggaoaaGreatDoor
