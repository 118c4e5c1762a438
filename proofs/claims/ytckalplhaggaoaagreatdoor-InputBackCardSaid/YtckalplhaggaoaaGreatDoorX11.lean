/- Towards InputBack: what is shown as input is read back as it was, for every entry and every text; no condition. Part 11 of 28. -/
import Derived.Test.YtckalplhaggaoaaGreatDoorX10
set_option linter.unusedVariables false
set_option linter.unusedSimpArgs false
namespace Go.Proofs.YtckalplhaggaoaaGreatDoor
open Go.RowKit

variable {w : World} {p g cap : Nat} {fin bad : Int} {sheet : ByteArray} {ts : List (Int × Int × Str)} {q : Nat}

set_option maxHeartbeats 1600000 in
set_option maxRecDepth 100000 in
theorem parse_pairs_top (hp : p < w.heap.size) (n : GNode) (q' : Nat)
    (H : ∀ w1, Bel w w1 → Reads 60 #[.pointer (some ⟨p, 0, none⟩)] p q' n w1) :
    Reads 43 #[.pointer (some ⟨p, 0, none⟩), .int .i64 4] p q' n w := by
  have HR := Lib.hid (fun w1 => parse_ranks w1)
  have HO := Lib.hid H
  clear H
  unfold Reads at *
  go_enter Tryz.func43, Tryz.ntmps43
  go_wp2_with (go_at_call 59; refine (HR.out _).mono ?_; rintro e' w' ⟨V, rfl, ⟨b, rfl, hblt, hrk⟩, hb'⟩; obtain ⟨d1, o1, rfl⟩ := hb'.ext; clear hb' hrk hblt)
  refine (HO.out _ (by (repeat (first | exact Below.refl _ _ | with_reducible assumption | refine bel_ext ?_ _ _ | refine bel_alloc ?_ _ | refine bel_drew ?_ | refine bel_drewN ?_ _ | refine bel_set ?_ (by simp; try omega) _)))).mono ?_
  rintro e' w' ⟨v, rfl, ⟨A, c, rfl, hr⟩, hb'⟩
  obtain ⟨d2, o2, rfl⟩ := hb'.ext
  rw [mv_ext _ _ _ _ _ (by rw [hsz]; omega), ext_ext] at hr
  unfold nodeV
  go_wp2
  exact bodyPost_ret (v := .tuple #[nodeV n (.slice A n.kids.length c), .bool true]) (by unfold nodeV; simp [results, Tryz.results43, go_sem]) rfl
    ⟨_, rfl, ⟨A, c, rfl, RdN.fin hr (by simp only [hsz, size_setCell]) (by simp only [hsz, size_setCell, size_ext]; omega) (by simp only [hsz, size_setCell, size_ext]; omega)⟩, by (repeat (first | exact Below.refl _ _ | with_reducible assumption | refine bel_ext ?_ _ _ | refine bel_alloc ?_ _ | refine bel_drew ?_ | refine bel_drewN ?_ _ | refine bel_set ?_ (by simp; try omega) _))⟩

/-- Is the token an op of the rank? -/
def opAt (ts : List (Int × Int × Str)) (q k : Nat) : Bool := tkKind ts q == 5 && Lib.containsS (rk k) (bs (tkText ts q))

theorem slices_Has (k g : Nat) (w : World) (h : ∀ j x, (rk k)[j]? = some x → w.cell? ⟨g, j, none⟩ = some (.string x)) (x : ByteArray) :
    Calls Tryz.prog 62 #[.slice (some ⟨g, 0, none⟩) (rk k).length (rk k).length, .string x] w fun e w' => e = .returned (.bool (Lib.containsS (rk k) x)) ∧ Bel w w' := by
  have hl : (rk k).length ≤ 9223372036854775807 := by unfold rk; split <;> decide
  have := Tryz.slices_Contains_string g 0 (rk k).length (rk k).length (rk k) x w (Nat.le_refl _) hl (fun j hj => by
    rw [Nat.zero_add, h j _ (List.getElem?_eq_getElem hj)]
    simp [List.getD_eq_getElem?_getD, List.getElem?_eq_getElem hj])
  rw [List.take_length] at this
  exact this.mono fun e w' ⟨he, hw⟩ => ⟨he, by rw [hw]; exact Below.refl _ _⟩
theorem cell_past (X Y : World) (hXY : Y.heap.size = X.heap.size) (d d' : Nat) (os os' : Array Obj) (b k : Nat) (h1 : X.heap.size ≤ b) (h2 : b < (ext X d os).heap.size) : (ext Y d' (os ++ os')).cell? ⟨b, k, none⟩ = (ext X d os).cell? ⟨b, k, none⟩ := by
  refine World.cell?_of_block (w := ext X d os) ?_
  show (ext Y d' (os ++ os')).heap[b]? = (ext X d os).heap[b]?
  rw [size_ext] at h2
  rw [ext_at _ _ _ _ (by omega), ext_at _ _ _ _ h1, hXY, Array.getElem?_append_left (by omega)]

set_option maxHeartbeats 4000000 in
set_option maxRecDepth 100000 in
theorem parse_pairs_up (h : PS w p g cap fin sheet bad ts q) (k : Nat) (hk : k < 4) (n : GNode) (q1 : Nat) (hq1 : q1 ≤ 1000) (hno : opAt ts q1 k = false)
    (H : ∀ w1, Bel w w1 → Reads 43 #[.pointer (some ⟨p, 0, none⟩), .int .i64 ((k : Int) + 1)] p q1 n w1) :
    Reads 43 #[.pointer (some ⟨p, 0, none⟩), .int .i64 (k : Int)] p q1 n w := by
  have HR := Lib.hid (fun w1 => parse_ranks w1)
  have HO := Lib.hid H
  have hp := h.plt
  have hk4 : ((k : Int) == 4) = false := by rw [beq_eq_false_iff_ne]; omega
  have hki : (k : Int) < 4 := by omega
  have Hh := Lib.hid h
  clear H h
  unfold Reads at *
  go_enter Tryz.func43, Tryz.ntmps43
  go_wp2_with (go_at_call 59; refine (HR.out _).mono ?_; rintro e' w' ⟨V, rfl, ⟨b, rfl, hblt, hrk⟩, hb'⟩; obtain ⟨d1, o1, rfl⟩ := hb'.ext; clear hb')
  refine (HO.out _ (by (repeat (first | exact Below.refl _ _ | with_reducible assumption | refine bel_ext ?_ _ _ | refine bel_alloc ?_ _ | refine bel_drew ?_ | refine bel_drewN ?_ _ | refine bel_set ?_ (by simp; try omega) _)))).mono ?_
  rintro e' w' ⟨v, rfl, ⟨A, c, rfl, hr⟩, hb'⟩
  obtain ⟨d2, o2, rfl⟩ := hb'.ext
  have hps0 := PS.to (Hh.out.bel (show Bel w _ by (repeat (first | exact Below.refl _ _ | with_reducible assumption | refine bel_ext ?_ _ _ | refine bel_alloc ?_ _ | refine bel_drew ?_ | refine bel_drewN ?_ _ | refine bel_set ?_ (by simp; try omega) _)))) hb'
  rw [mv_ext _ _ _ _ _ (by rw [hsz]; omega), ext_ext] at hr hps0 ⊢
  obtain ⟨gk, hb1, ⟨hgB, hg1⟩, hg2⟩ := hrk k hk
  have hb2 := (cell_past _ (mv (w.alloc (.cells #[.int .i64 0, .string ⟨#[]⟩, .string ⟨#[]⟩, .int .i64 0, .int .i64 0, .string ⟨#[]⟩, .string ⟨#[]⟩, .int .i64 0, .int .i64 0, .string ⟨#[]⟩, .int .i64 0, .int .i64 0, .slice none 0 0] 28)) p q1) (by rw [size_setCell]) d1 d2 o1 o2 b k hblt.1 hblt.2).trans hb1
  have hg3 := fun j x hj => (cell_past _ (mv (w.alloc (.cells #[.int .i64 0, .string ⟨#[]⟩, .string ⟨#[]⟩, .int .i64 0, .int .i64 0, .string ⟨#[]⟩, .string ⟨#[]⟩, .int .i64 0, .int .i64 0, .string ⟨#[]⟩, .int .i64 0, .int .i64 0, .slice none 0 0] 28)) p q1) (by rw [size_setCell]) d1 d2 o1 o2 gk j hgB hg1).trans (hg2 j x hj)
  have hr2 := RdN.fin (B' := w.heap.size + 1) (d' := d2) hr rfl (by simp only [hsz, size_setCell, size_ext]; omega) (by simp only [hsz, size_setCell, size_ext]; omega)
  have hbl2 : b < w.heap.size + 1 + (o1.size + o2.size) := by have := hblt.2; simp only [hsz, size_ext] at this; omega
  have hgl2 : gk < w.heap.size + 1 + (o1.size + o2.size) := by have := hg1; simp only [hsz, size_ext] at this; omega
  clear hrk hb1 hg2 hg1 hgB hblt hb' hr HO HR
  rw [mv_alloc _ _ _ _ hp] at hps0 hb2 hg3 hr2
  unfold nodeV
  go_wp2
  refine wp_loop_rounds 1 ?_
  rw [rounds_succ]
  go_wp2
  generalize hX : ext _ _ _ = X at hps0 hb2 hg3 hr2 ⊢
  have hXs : X.heap.size = w.heap.size + 1 + (o1.size + o2.size) := by rw [← hX]; simp only [hsz, size_ext, size_setCell, Array.size_append]
  have hpX := hps0.plt
  have hgX := hps0.glt
  have hgkX : gk < X.heap.size := by omega
  have hbX : b < X.heap.size := by omega
  generalize hW : World.alloc X _ = W
  have hWX : Bel X W := by rw [← hW]; exact bel1 _ _
  have hWs : X.heap.size < W.heap.size := by rw [← hW, hsz]; omega
  have hpsW := hps0.bel hWX
  have c0 := hpsW.c0
  have c1 := hpsW.c1
  have hpW := hpsW.plt
  have hgW := hpsW.glt
  have hrm := hpsW.room
  have hfw := hpsW.few
  have hb3 := (hWX.cells b k hbX).trans hb2
  have hbW : b < W.heap.size := by omega
  have HK := Lib.hid (fun w1 (b1 : Bel W w1) => parse_kind (hpsW.bel b1) 0 (by omega) hq1)
  rw [Nat.add_zero] at HK
  have hkc : ((0 : Nat) : Int) = 0 := rfl
  rw [hkc] at HK
  have hHB : ∀ pp : BW W, Bel W pp.w' := fun pp => pp.h
  have HC := Lib.hid (fun w1 (b1 : Bel W w1) x => slices_Has k gk w1 (fun j y hj => (b1.cells gk j (by omega)).trans ((hWX.cells gk j hgkX).trans (hg3 j y hj))) x)
  by_cases h5 : tkKind ts q1 = 5
  · have hlt : q1 < ts.length := by
      by_cases hlt : q1 < ts.length
      · exact hlt
      · unfold tkKind at h5; rw [List.getElem?_eq_none (by omega)] at h5; simp at h5
    obtain ⟨k', a', t', ht⟩ : ∃ k' a' t', ts[q1]? = some (k', a', t') := ⟨_, _, _, List.getElem?_eq_getElem hlt⟩
    obtain ⟨t0, t1, t2⟩ := hpsW.tok ht
    have hct : Lib.containsS (rk k) (bs t') = false := by
      have e : tkText ts q1 = t' := by unfold tkText; rw [ht]
      unfold opAt at hno
      rw [h5, e] at hno
      simpa using hno
    rw [h5] at HK
    have HC2 := Lib.hid (fun w1 (b1 : Bel W w1) => HC.out w1 b1 (bs t'))
    rw [hct] at HC2
    have hql : (q1 : Int) < ts.length := by omega
    clear HC hct ht h5 hno hlt t0 t1 hg3
    refine wp_region_bw (by kernel_rfl) (by kernel_rfl) ?_
    repeat (go_big_quiet_step (first
      | (go_at_call 61; exact Calls.bw (HK.out _ (hHB _)))
      | (go_at_call 62; exact Calls.bw (HC2.out _ (hHB _)))))
    refine wpQuiet_nil ?_
    intro _ hw'
    obtain ⟨pq, hw''⟩ := hw'
    subst hw''
    obtain ⟨d', o', hpq⟩ := pq.h.ext
    rw [hpq]
    clear t2 HC2 hql
    clear hps0 hb2 hpX hgX hgkX hbX hWX hWs hpsW c0 c1 hpW hgW hrm hfw hb3 hbW HK hkc hHB hXs hpq
    subst hW
    subst hX
    go_wp2
    exact bodyPost_ret (v := .tuple #[nodeV n (.slice A n.kids.length c), .bool true]) (by unfold nodeV; simp [results, Tryz.results43, go_sem]) rfl
      ⟨_, rfl, ⟨A, c, rfl, RdN.bel (RdN.fin (d' := d2) hr2 (by simp only [hsz]) (by simp only [hsz, size_setCell]; omega) (by omega)) (bel_ext (bel_alloc (Below.refl _ _) _) _ _)⟩, by (repeat (first | exact Below.refl _ _ | with_reducible assumption | refine bel_ext ?_ _ _ | refine bel_alloc ?_ _ | refine bel_drew ?_ | refine bel_drewN ?_ _ | refine bel_set ?_ (by simp; try omega) _))⟩
  · have hk5 : (tkKind ts q1 == 5) = false := by simpa using h5
    clear h5 hno hg3 HC
    generalize tkKind ts q1 = K at *
    refine wp_region_bw (by kernel_rfl) (by kernel_rfl) ?_
    repeat (go_big_quiet_step ((go_at_call 61; exact Calls.bw (HK.out _ (hHB _)))))
    refine wpQuiet_nil ?_
    intro _ hw'
    obtain ⟨pq, hw''⟩ := hw'
    subst hw''
    obtain ⟨d', o', hpq⟩ := pq.h.ext
    rw [hpq]
    clear hps0 hb2 hpX hgX hgkX hbX hWX hWs hpsW c0 c1 hpW hgW hrm hfw hb3 hbW HK hkc hHB hXs hpq
    subst hW
    subst hX
    go_wp2
    exact bodyPost_ret (v := .tuple #[nodeV n (.slice A n.kids.length c), .bool true]) (by unfold nodeV; simp [results, Tryz.results43, go_sem]) rfl
      ⟨_, rfl, ⟨A, c, rfl, RdN.bel (RdN.fin (d' := d2) hr2 (by simp only [hsz]) (by simp only [hsz, size_setCell]; omega) (by omega)) (bel_ext (bel_alloc (Below.refl _ _) _) _ _)⟩, by (repeat (first | exact Below.refl _ _ | with_reducible assumption | refine bel_ext ?_ _ _ | refine bel_alloc ?_ _ | refine bel_drew ?_ | refine bel_drewN ?_ _ | refine bel_set ?_ (by simp; try omega) _))⟩

end Go.Proofs.YtckalplhaggaoaaGreatDoor

namespace Go.Proofs.YtckalplhaggaoaaGreatDoor
open Go.RowKit

variable {w : World} {p g cap : Nat} {fin bad : Int} {sheet : ByteArray} {ts : List (Int × Int × Str)} {q : Nat}

def pair2 (op : ByteArray) (a b : GNode) : GNode := { GNode.zero with kind := 5, op := op, kids := [a, b] }
theorem pair2_ok (op : ByteArray) (h : op.size ≤ 140737488351232) (a b : GNode) : okTop (pair2 op a b) := by
  unfold okTop okVal okCell pair2 GNode.zero GVal.zero GCell.zero
  simp
  exact ⟨h, by decide⟩

set_option maxHeartbeats 8000000 in
set_option maxRecDepth 100000 in
theorem parse_pairs_op (h : PS w p g cap fin sheet bad ts q) (k : Nat) (hk : k < 4) (a m : GNode) (q1 q2 : Nat) (hq1 : q1 ≤ 1000) (hq2 : q2 ≤ 1000) (hlt : q1 < ts.length) (hyes : opAt ts q1 k = true) (hno : opAt ts q2 k = false)
    (hsz2 : (bs (tkText ts q1)).size ≤ 140737488351232)
    (H1 : ∀ w1, Bel w w1 → Reads 43 #[.pointer (some ⟨p, 0, none⟩), .int .i64 ((k : Int) + 1)] p q1 a w1)
    (H2 : ∀ w1, Bel (mv w p (q1 + 1)) w1 → Reads 43 #[.pointer (some ⟨p, 0, none⟩), .int .i64 ((k : Int) + 1)] p q2 m w1) :
    Reads 43 #[.pointer (some ⟨p, 0, none⟩), .int .i64 (k : Int)] p q2 (pair2 (bs (tkText ts q1)) a m) w := by
  have HR := Lib.hid (fun w1 => parse_ranks w1)
  have HO1 := Lib.hid H1
  have HO2 := Lib.hid H2
  have hp := h.plt
  have hk4 : ((k : Int) == 4) = false := by rw [beq_eq_false_iff_ne]; omega
  have hki : (k : Int) < 4 := by omega
  have Hh := Lib.hid h
  clear H1 H2 h
  unfold Reads at *
  go_enter Tryz.func43, Tryz.ntmps43
  go_wp2_with (go_at_call 59; refine (HR.out _).mono ?_; rintro e' w' ⟨V, rfl, ⟨b, rfl, hblt, hrk⟩, hb'⟩; obtain ⟨d1, o1, rfl⟩ := hb'.ext; clear hb')
  refine (HO1.out _ (by (repeat (first | exact Below.refl _ _ | with_reducible assumption | refine bel_ext ?_ _ _ | refine bel_alloc ?_ _ | refine bel_drew ?_ | refine bel_drewN ?_ _ | refine bel_set ?_ (by simp; try omega) _)))).mono ?_
  rintro e' w' ⟨v, rfl, ⟨A, c, rfl, hr⟩, hb'⟩
  obtain ⟨d2, o2, rfl⟩ := hb'.ext
  have hps0 := PS.to (Hh.out.bel (show Bel w _ by (repeat (first | exact Below.refl _ _ | with_reducible assumption | refine bel_ext ?_ _ _ | refine bel_alloc ?_ _ | refine bel_drew ?_ | refine bel_drewN ?_ _ | refine bel_set ?_ (by simp; try omega) _)))) hb'
  rw [mv_ext _ _ _ _ _ (by rw [hsz]; omega), ext_ext] at hr hps0 ⊢
  obtain ⟨gk, hb1, ⟨hgB, hg1⟩, hg2⟩ := hrk k hk
  have hb2 := (cell_past _ (mv (w.alloc (.cells #[.int .i64 0, .string ⟨#[]⟩, .string ⟨#[]⟩, .int .i64 0, .int .i64 0, .string ⟨#[]⟩, .string ⟨#[]⟩, .int .i64 0, .int .i64 0, .string ⟨#[]⟩, .int .i64 0, .int .i64 0, .slice none 0 0] 28)) p q1) (by rw [size_setCell]) d1 d2 o1 o2 b k hblt.1 hblt.2).trans hb1
  have hg3 := fun j x hj => (cell_past _ (mv (w.alloc (.cells #[.int .i64 0, .string ⟨#[]⟩, .string ⟨#[]⟩, .int .i64 0, .int .i64 0, .string ⟨#[]⟩, .string ⟨#[]⟩, .int .i64 0, .int .i64 0, .string ⟨#[]⟩, .int .i64 0, .int .i64 0, .slice none 0 0] 28)) p q1) (by rw [size_setCell]) d1 d2 o1 o2 gk j hgB hg1).trans (hg2 j x hj)
  have hr2 := RdN.fin (B' := w.heap.size + 1) (d' := d2) hr rfl (by simp only [hsz, size_setCell, size_ext]; omega) (by simp only [hsz, size_setCell, size_ext]; omega)
  have hbl2 : b < w.heap.size + 1 + (o1.size + o2.size) := by have := hblt.2; simp only [hsz, size_ext] at this; omega
  have hgl2 : gk < w.heap.size + 1 + (o1.size + o2.size) := by have := hg1; simp only [hsz, size_ext] at this; omega
  have hbp : b ≠ p := by have := hblt.1; rw [hsz] at this; omega
  have hgp : gk ≠ p := by have := hgB; rw [hsz] at this; omega
  clear hrk hb1 hg2 hg1 hgB hblt hb' hr HO1 HR
  rw [mv_alloc _ _ _ _ hp] at hps0 hb2 hg3 hr2
  unfold nodeV
  go_wp2
  refine wp_loop_rounds 2 ?_
  rw [rounds_succ]
  go_wp2
  generalize hX : ext _ _ _ = X at hps0 hb2 hg3 hr2 ⊢
  have hXs : X.heap.size = w.heap.size + 1 + (o1.size + o2.size) := by rw [← hX]; simp only [hsz, size_ext, size_setCell, Array.size_append]
  have hpX := hps0.plt
  have hgX := hps0.glt
  have hgkX : gk < X.heap.size := by omega
  have hbX : b < X.heap.size := by omega
  generalize hW : World.alloc X _ = W
  have hWX : Bel X W := by rw [← hW]; exact bel1 _ _
  have hWs : X.heap.size < W.heap.size := by rw [← hW, hsz]; omega
  have hpsW := hps0.bel hWX
  have c0 := hpsW.c0
  have c1 := hpsW.c1
  have hpW := hpsW.plt
  have hgW := hpsW.glt
  have hrm := hpsW.room
  have hfw := hpsW.few
  have hb3 := (hWX.cells b k hbX).trans hb2
  have hbW : b < W.heap.size := by omega
  have HK := Lib.hid (fun w1 (b1 : Bel W w1) => parse_kind (hpsW.bel b1) 0 (by omega) hq1)
  rw [Nat.add_zero] at HK
  have hkc : ((0 : Nat) : Int) = 0 := rfl
  rw [hkc] at HK
  have hHB : ∀ pp : BW W, Bel W pp.w' := fun pp => pp.h
  have HC := Lib.hid (fun w1 (b1 : Bel W w1) x => slices_Has k gk w1 (fun j y hj => (b1.cells gk j (by omega)).trans ((hWX.cells gk j hgkX).trans (hg3 j y hj))) x)
  obtain ⟨k', a', t', ht⟩ : ∃ k' a' t', ts[q1]? = some (k', a', t') := ⟨_, _, _, List.getElem?_eq_getElem hlt⟩
  obtain ⟨t0, t1, t2⟩ := hpsW.tok ht
  have hy := hyes
  unfold opAt at hy
  obtain ⟨h5b, hct⟩ := Bool.and_eq_true_iff.1 hy
  have h5 : tkKind ts q1 = 5 := by simpa using h5b
  have e : tkText ts q1 = t' := by unfold tkText; rw [ht]
  rw [e] at hct
  rw [h5] at HK
  have HC2 := Lib.hid (fun w1 (b1 : Bel W w1) => HC.out w1 b1 (bs t'))
  rw [hct] at HC2
  have hql : (q1 : Int) < ts.length := by omega
  have HT := Lib.hid (fun w1 (b1 : Bel W w1) => parse_take (hpsW.bel b1) hlt)
  clear HC hct ht h5 hy hyes t0 t1 h5b
  refine wp_region_bw (by kernel_rfl) (by kernel_rfl) ?_
  repeat (go_big_quiet_step (first
    | (go_at_call 61; exact Calls.bw (HK.out _ (hHB _)))
    | (go_at_call 62; exact Calls.bw (HC2.out _ (hHB _)))))
  refine wpQuiet_nil ?_
  intro _ hw'
  obtain ⟨pq, hw''⟩ := hw'
  subst hw''
  obtain ⟨d3, o3, hpq⟩ := pq.h.ext
  rw [hpq]
  clear hpq
  go_wp2_with (go_at_call 63; refine (HT.out _ (by (repeat (first | exact Below.refl _ _ | with_reducible assumption | refine bel_ext ?_ _ _ | refine bel_alloc ?_ _ | refine bel_drew ?_ | refine bel_drewN ?_ _ | refine bel_set ?_ (by simp; try omega) _)))).mono ?_; rintro e' w' ⟨rfl, hb'⟩; obtain ⟨d4, o4, rfl⟩ := hb'.ext; clear hb')
  have e1 : (q1 : Int) + 1 = ((q1 + 1 : Nat) : Int) := by omega
  rw [e1]
  have hbw : Bel (mv w p q1) W := by rw [← hW, ← hX]; exact bel_alloc (bel_ext (bel_alloc (Below.refl _ _) _) _ _) _
  have hbw2 : Bel (mv w p (q1 + 1)) (mv W p (q1 + 1)) := by
    have := bel_mv hbw p (q1 + 1) (by rw [size_setCell]; exact hp)
    rwa [mv_mv] at this
  refine (HO2.out _ (bel_alloc (bel_ext hbw2 _ _) _)).mono ?_
  rintro e' w' ⟨v, rfl, ⟨A2, c2, rfl, hr3⟩, hb'⟩
  obtain ⟨d5, o5, rfl⟩ := hb'.ext
  have hps3 := PS.to (((hpsW.mv (q1 + 1)).bel (bel_ext (Below.refl _ _) _ _)).bel (bel1 _ _)) hb'
  clear hb'
  rw [mv_alloc _ _ _ _ (by rw [size_ext, size_setCell]; omega), mv_ext _ _ _ _ _ (by rw [size_setCell]; omega), mv_mv] at hr3 hps3 ⊢
  rw [← hW, mv_alloc _ _ _ _ hpX] at hr3 hps3 ⊢
  have hX2 : mv X p q2 = ext ((mv w p q2).alloc (.cells #[.int .i64 0, .string ⟨#[]⟩, .string ⟨#[]⟩, .int .i64 0, .int .i64 0, .string ⟨#[]⟩, .string ⟨#[]⟩, .int .i64 0, .int .i64 0, .string ⟨#[]⟩, .int .i64 0, .int .i64 0, .slice none 0 0] 28)) d2 (o1 ++ o2) := by
    rw [← hX, mv_ext _ _ _ _ _ (by rw [hsz, size_setCell]; omega), mv_alloc _ _ _ _ (by rw [size_setCell]; exact hp), mv_mv]
  have hb4 : (mv X p q2).cell? ⟨b, k, none⟩ = some (.slice (some ⟨gk, 0, none⟩) (rk k).length (rk k).length) := by
    rw [World.cell?_of_block (w := X) (block_setCell X p 1 _ b hbp)]; exact hb2
  have hg4 : ∀ j x, (rk k)[j]? = some x → (mv X p q2).cell? ⟨gk, j, none⟩ = some (.string x) := fun j x hj => by
    rw [World.cell?_of_block (w := X) (block_setCell X p 1 _ gk hgp)]; exact hg3 j x hj
  have hpsX2 := hps0.mv q2
  generalize mv X p q2 = X2 at hr3 hps3 hX2 hb4 hg4 hpsX2 ⊢
  have hX2s : X2.heap.size = w.heap.size + 1 + (o1.size + o2.size) := by rw [hX2]; simp only [hsz, size_ext, size_setCell, Array.size_append]
  have hWs2 : W.heap.size = w.heap.size + 1 + (o1.size + o2.size) + 1 := by rw [← hW, hsz, hXs]
  clear hW HT HC2 HK c0 c1 hpW hgW hrm hfw hb3 hbW hHB t2 hpsW hWX hWs hbw hbw2 HO2
  have HX2 := Lib.hid hX2
  have hbX2 : b < X2.heap.size := by omega
  have hgX2 : gk < X2.heap.size := by omega
  clear hX2 hps3 hb2 hg3 hps0 hgX hgkX hbX
  unfold nodeV
  go_wp2
  rw [rounds_succ]
  go_wp2
  generalize hV1 : ext (World.alloc X2 _) d4 _ = V1
  generalize hV2 : ext (World.alloc V1 _) d5 o5 = V2
  generalize hV3 : World.alloc V2 _ = V3
  have hXV : Bel X2 V3 := by rw [← hV3, ← hV2, ← hV1]; exact bel_alloc (bel_ext (bel_alloc (bel_ext (bel_alloc (Below.refl _ _) _) _ _) _) _ _) _
  have hXVs := hXV.size
  have hpsV := hpsX2.bel hXV
  have c0 := hpsV.c0
  have c1 := hpsV.c1
  have hpV := hpsV.plt
  have hgV := hpsV.glt
  have hrm := hpsV.room
  have hfw := hpsV.few
  have hb5 := (hXV.cells b k hbX2).trans hb4
  have hbV : b < V3.heap.size := by omega
  have HK := Lib.hid (fun w1 (b1 : Bel V3 w1) => parse_kind (hpsV.bel b1) 0 (by omega) hq2)
  rw [Nat.add_zero] at HK
  have hkc : ((0 : Nat) : Int) = 0 := rfl
  rw [hkc] at HK
  have hHB : ∀ pp : BW V3, Bel V3 pp.w' := fun pp => pp.h
  have HC := Lib.hid (fun w1 (b1 : Bel V3 w1) x => slices_Has k gk w1 (fun j y hj => (b1.cells gk j (by omega)).trans ((hXV.cells gk j hgX2).trans (hg4 j y hj))) x)
  by_cases h5 : tkKind ts q2 = 5
  · have hlt2 : q2 < ts.length := by
      by_cases hlt : q2 < ts.length
      · exact hlt
      · unfold tkKind at h5; rw [List.getElem?_eq_none (by omega)] at h5; simp at h5
    obtain ⟨k2, a2, t2, ht⟩ : ∃ k' a' t', ts[q2]? = some (k', a', t') := ⟨_, _, _, List.getElem?_eq_getElem hlt2⟩
    obtain ⟨t0, t1, t3⟩ := hpsV.tok ht
    have hct : Lib.containsS (rk k) (bs t2) = false := by
      have e : tkText ts q2 = t2 := by unfold tkText; rw [ht]
      unfold opAt at hno
      rw [h5, e] at hno
      simpa using hno
    rw [h5] at HK
    have HC2 := Lib.hid (fun w1 (b1 : Bel V3 w1) => HC.out w1 b1 (bs t2))
    rw [hct] at HC2
    have hql2 : (q2 : Int) < ts.length := by omega
    clear HC hct ht h5 hno hlt2 t0 t1 hg4
    refine wp_region_bw (by kernel_rfl) (by kernel_rfl) ?_
    repeat (go_big_quiet_step (first
      | (go_at_call 61; exact Calls.bw (HK.out _ (hHB _)))
      | (go_at_call 62; exact Calls.bw (HC2.out _ (hHB _)))))
    refine wpQuiet_nil ?_
    intro _ hw'
    obtain ⟨pq2, hw''⟩ := hw'
    subst hw''
    obtain ⟨d6, o6, hpq⟩ := pq2.h.ext
    rw [hpq]
    clear t3 HC2 hql2 hpsX2 hXV hXVs hpsV c0 c1 hpV hgV hrm hfw hb5 hbV HK hkc hHB hpq hb4 hbX2 hgX2 hX2s hXs hpX
    subst hV3
    subst hV2
    subst hV1
    have hX2 := HX2.out
    subst hX2
    clear HX2
    go_wp2
    rw [← hX] at hr2
    rw [e] at hsz2 ⊢
    refine bodyPost_ret (v := .tuple #[nodeV (pair2 (bs t') a m) (.slice (some ⟨w.heap.size + 1 + (o1.size + o2.size) + 1 + (o3.size + o4.size) + 1 + o5.size, 0, none⟩) 2 2), .bool true]) (by unfold nodeV pair2; simp [results, Tryz.results43, go_sem, GNode.zero, GVal.zero, GCell.zero]) rfl ?_
    refine ⟨_, rfl, ⟨_, 2, rfl, RdN.build (pair2 (bs t') a m) (pair2_ok _ hsz2 a m) 2 (Nat.le_refl _) (by omega) (by simp only [hsz, size_ext, size_setCell, Array.size_append]; omega) ?_⟩, by (repeat (first | exact Below.refl _ _ | with_reducible assumption | refine bel_ext ?_ _ _ | refine bel_alloc ?_ _ | refine bel_drew ?_ | refine bel_drewN ?_ _ | refine bel_set ?_ (by simp; try omega) _ | refine bel_mv ?_ _ _ (by simp [size_setCell, size_ext, World.heap_alloc_size']; try omega) | refine bel_pset ?_ (by simp [size_setCell]; try omega) _))⟩
    rw [← hX] at hr3
    have hn1 := fun (X : World) (g : Nat) (hg : g = X.heap.size) => nodeAt_two X a m (.slice A a.kids.length c) (.slice A2 m.kids.length c2) 28 g hg
    refine RdL.two (s := .slice A a.kids.length c) (t := .slice A2 m.kids.length c2) ?_ ?_ ?_ ?_
    · exact RdN.bel (RdN.fin (d' := d2) hr2 (by simp only [hsz, size_setCell]) (by simp only [hsz, size_setCell]; omega) (by omega)) (bel_ext (bel_alloc (bel_ext (bel_alloc (bel_ext (bel_alloc (Below.refl _ _) _) _ _) _) _ _) _) _ _)
    · exact nodeAt.bel (hn1 _ _ (by simp only [hsz, size_ext, size_setCell, Array.size_append])).1 (bel_ext (Below.refl _ _) _ _) (by simp only [hsz, size_ext, size_setCell, Array.size_append]; omega)
    · exact RdN.bel (RdN.fin (d' := d5) hr3 (by simp only [hsz, size_ext, size_setCell, Array.size_append]) (by simp only [hsz, size_ext, size_setCell, Array.size_append]; omega) (by simp only [hsz, size_ext, size_setCell, Array.size_append]; omega)) (bel_ext (bel_alloc (Below.refl _ _) _) _ _)
    · exact nodeAt.bel (hn1 _ _ (by simp only [hsz, size_ext, size_setCell, Array.size_append])).2 (bel_ext (Below.refl _ _) _ _) (by simp only [hsz, size_ext, size_setCell, Array.size_append]; omega)
  · have hk5 : (tkKind ts q2 == 5) = false := by simpa using h5
    clear h5 hno hg4 HC
    generalize tkKind ts q2 = K at *
    refine wp_region_bw (by kernel_rfl) (by kernel_rfl) ?_
    repeat (go_big_quiet_step ((go_at_call 61; exact Calls.bw (HK.out _ (hHB _)))))
    refine wpQuiet_nil ?_
    intro _ hw'
    obtain ⟨pq2, hw''⟩ := hw'
    subst hw''
    obtain ⟨d6, o6, hpq⟩ := pq2.h.ext
    rw [hpq]
    clear hpsX2 hXV hXVs hpsV c0 c1 hpV hgV hrm hfw hb5 hbV HK hkc hHB hpq hb4 hbX2 hgX2 hX2s hXs hpX
    subst hV3
    subst hV2
    subst hV1
    have hX2 := HX2.out
    subst hX2
    clear HX2
    go_wp2
    rw [← hX] at hr2
    rw [e] at hsz2 ⊢
    refine bodyPost_ret (v := .tuple #[nodeV (pair2 (bs t') a m) (.slice (some ⟨w.heap.size + 1 + (o1.size + o2.size) + 1 + (o3.size + o4.size) + 1 + o5.size, 0, none⟩) 2 2), .bool true]) (by unfold nodeV pair2; simp [results, Tryz.results43, go_sem, GNode.zero, GVal.zero, GCell.zero]) rfl ?_
    refine ⟨_, rfl, ⟨_, 2, rfl, RdN.build (pair2 (bs t') a m) (pair2_ok _ hsz2 a m) 2 (Nat.le_refl _) (by omega) (by simp only [hsz, size_ext, size_setCell, Array.size_append]; omega) ?_⟩, by (repeat (first | exact Below.refl _ _ | with_reducible assumption | refine bel_ext ?_ _ _ | refine bel_alloc ?_ _ | refine bel_drew ?_ | refine bel_drewN ?_ _ | refine bel_set ?_ (by simp; try omega) _ | refine bel_mv ?_ _ _ (by simp [size_setCell, size_ext, World.heap_alloc_size']; try omega) | refine bel_pset ?_ (by simp [size_setCell]; try omega) _))⟩
    rw [← hX] at hr3
    have hn1 := fun (X : World) (g : Nat) (hg : g = X.heap.size) => nodeAt_two X a m (.slice A a.kids.length c) (.slice A2 m.kids.length c2) 28 g hg
    refine RdL.two (s := .slice A a.kids.length c) (t := .slice A2 m.kids.length c2) ?_ ?_ ?_ ?_
    · exact RdN.bel (RdN.fin (d' := d2) hr2 (by simp only [hsz, size_setCell]) (by simp only [hsz, size_setCell]; omega) (by omega)) (bel_ext (bel_alloc (bel_ext (bel_alloc (bel_ext (bel_alloc (Below.refl _ _) _) _ _) _) _ _) _) _ _)
    · exact nodeAt.bel (hn1 _ _ (by simp only [hsz, size_ext, size_setCell, Array.size_append])).1 (bel_ext (Below.refl _ _) _ _) (by simp only [hsz, size_ext, size_setCell, Array.size_append]; omega)
    · exact RdN.bel (RdN.fin (d' := d5) hr3 (by simp only [hsz, size_ext, size_setCell, Array.size_append]) (by simp only [hsz, size_ext, size_setCell, Array.size_append]; omega) (by simp only [hsz, size_ext, size_setCell, Array.size_append]; omega)) (bel_ext (bel_alloc (Below.refl _ _) _) _ _)
    · exact nodeAt.bel (hn1 _ _ (by simp only [hsz, size_ext, size_setCell, Array.size_append])).2 (bel_ext (Below.refl _ _) _ _) (by simp only [hsz, size_ext, size_setCell, Array.size_append]; omega)

end Go.Proofs.YtckalplhaggaoaaGreatDoor
