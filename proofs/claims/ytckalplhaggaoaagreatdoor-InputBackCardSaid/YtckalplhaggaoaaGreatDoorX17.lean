/- Towards InputBack: what is shown as input is read back as it was, for every entry and every text; no condition. Part 17 of 28. -/
import Derived.Test.YtckalplhaggaoaaGreatDoorX16
set_option linter.unusedVariables false
set_option linter.unusedSimpArgs false
namespace Go.Proofs.YtckalplhaggaoaaGreatDoor
open Go.RowKit

variable {w : World} {p g cap : Nat} {fin bad : Int} {sheet : ByteArray} {ts : List (Int × Int × Str)} {q : Nat}

theorem infoNode : (Tryz.prog.info? 28).map (fun i => (i.zero, i.size, i.bytes)) = some (some (nodeV GNode.zero (.slice none 0 0)), 13, 160) := by kernel_rfl

/-- Where kid i begins. -/
def stOf (q : Nat) (e : Nat → Nat) : Nat → Nat
  | 0 => q + 2
  | i + 1 => e i + 1

theorem heap_alloc_at (w : World) (o : Obj) (b : Nat) (h : b = w.heap.size) : (w.alloc o).heap[b]? = some o := by subst h; show (w.heap.push o)[w.heap.size]? = some o; simp
theorem set_set (w : World) (p : Nat) (u v : Value) : (w.setCell ⟨p, 1, none⟩ u).setCell ⟨p, 1, none⟩ v = w.setCell ⟨p, 1, none⟩ v := by
  unfold World.setCell
  congr 1
  apply Array.ext_getElem?
  intro k
  simp only [Array.getElem?_modify]
  by_cases hk : p = k
  · simp only [hk, if_true, Option.map_map]
    congr 1
    funext o
    cases o <;> simp
  · simp only [if_neg hk]
theorem ext_block (X Y : World) (d : Nat) (os : Array Obj) (b : Nat) (hs : X.heap.size = Y.heap.size) (h : X.heap[b]? = Y.heap[b]?) : (ext X d os).heap[b]? = (ext Y d os).heap[b]? := by
  simp only [ext, Array.getElem?_append, hs]
  rw [h]
theorem setCell_blk {X : World} {b : Nat} {arr : Array Value} {T : TypeId} {fz : Nat × Nat} (h : X.heap[b]? = some (.cells arr T fz)) (k : Nat) (v : Value) : (X.setCell ⟨b, k, none⟩ v).heap[b]? = some (.cells (arr.setIfInBounds k v) T fz) := by
  have hlt := lt_of_some h
  have h' : X.heap[b] = .cells arr T fz := by simpa [Array.getElem?_eq_getElem hlt] using h
  show (X.heap.modify b _)[b]? = _
  rw [Array.getElem?_eq_getElem (by simpa using hlt), Array.getElem_modify_self, h']
  rfl
theorem set13 {X : World} {b : Nat} {n : GNode} {s : Value} {T : TypeId} {fz : Nat × Nat} (h : X.heap[b]? = some (.cells (nodeCells n s).toArray T fz)) (v0 v1 v2 v3 v4 v5 v6 v7 v8 v9 v10 v11 v12 : Value) :
    (((((((((((((X.setCell ⟨b, 0, none⟩ v0).setCell ⟨b, 1, none⟩ v1).setCell ⟨b, 2, none⟩ v2).setCell ⟨b, 3, none⟩ v3).setCell ⟨b, 4, none⟩ v4).setCell ⟨b, 5, none⟩ v5).setCell ⟨b, 6, none⟩ v6).setCell ⟨b, 7, none⟩ v7).setCell ⟨b, 8, none⟩ v8).setCell ⟨b, 9, none⟩ v9).setCell ⟨b, 10, none⟩ v10).setCell ⟨b, 11, none⟩ v11).setCell ⟨b, 12, none⟩ v12).heap[b]? = some (.cells #[v0, v1, v2, v3, v4, v5, v6, v7, v8, v9, v10, v11, v12] T fz) := by
  have hch := (setCell_blk (setCell_blk (setCell_blk (setCell_blk (setCell_blk (setCell_blk (setCell_blk (setCell_blk (setCell_blk (setCell_blk (setCell_blk (setCell_blk (setCell_blk h 0 v0) 1 v1) 2 v2) 3 v3) 4 v4) 5 v5) 6 v6) 7 v7) 8 v8) 9 v9) 10 v10) 11 v11) 12 v12)
  simp only [nodeCells, List.setIfInBounds_toArray, List.set_cons_zero, List.set_cons_succ] at hch
  exact hch
theorem CallS.init (h : PS w p g cap fin sheet bad ts q) (nm : ByteArray) (ks : List GNode) (d1 d2 : Nat) (o1 o2 : Array Obj) (b4 : Nat) (hb4 : w.heap.size + 1 + o1.size = b4) :
    CallS w p g cap fin sheet bad ts nm ks w.heap.size b4 (q + 2) 0 (.slice none 0 0) []
      (ext ((ext ((mv w p (q + 2)).alloc (.cells (nodeCells GNode.zero (.slice none 0 0)).toArray 28)) d1 o1).alloc (.cells (nodeCells (callH nm) (.slice none 0 0)).toArray 28)) d2 o2) := by
  subst hb4
  have hp := h.plt
  have hg := h.glt
  have hb : Bel (mv w p (q + 2)) (ext ((ext ((mv w p (q + 2)).alloc (.cells (nodeCells GNode.zero (.slice none 0 0)).toArray 28)) d1 o1).alloc (.cells (nodeCells (callH nm) (.slice none 0 0)).toArray 28)) d2 o2) := bel_ext (bel_alloc (bel_ext (bel_alloc (Below.refl _ _) _) _ _) _) _ _
  refine ⟨h.to hb, hb, ?_, ?_, ?_, ⟨rfl, Nat.zero_le _⟩, fun j n s hj => absurd hj (Nat.not_lt_zero _), by simp [Value.ownBlock], by simp [Value.ownBlock], by omega, by omega, by omega, hp, hg⟩
  · rw [heap_ext _ _ _ _ (by simp only [hsz, size_ext, mv_size]; omega), heap_alloc_old _ _ (by simp only [hsz, size_ext, mv_size]; omega), heap_ext _ _ _ _ (by simp only [hsz, mv_size]; omega)]
    exact heap_alloc_at _ _ _ (mv_size _ _ _).symm
  · rw [heap_ext _ _ _ _ (by simp only [hsz, size_ext, mv_size]; omega)]
    exact heap_alloc_at _ _ _ (by simp only [hsz, size_ext, mv_size])
  · exact World.ownsRow_nil _ _ _ _

set_option maxHeartbeats 8000000 in
set_option maxRecDepth 100000 in
theorem parse_call (h : PS w p g cap fin sheet bad ts q) (nm : Str) (hnm : nm.length ≤ 200) (ks : List GNode) (hks : ks.length ≤ 20) (h0 : 0 < ks.length) (e : Nat → Nat) (hq : q + 1 < ts.length) (hx : tkText ts q = nm)
    (hst : stOf q e ks.length ≤ 300 ∧ ∀ i, i < ks.length → stOf q e i ≤ 300)
    (hfirst : ∀ i, i < ks.length → (tkKind ts (stOf q e i) == 5 && (tkText ts (stOf q e i) == [41])) = false)
    (hlast : e (ks.length - 1) < ts.length ∧ tkKind ts (e (ks.length - 1)) = 5 ∧ tkText ts (e (ks.length - 1)) = [41])
    (hmid : ∀ i, i + 1 < ks.length → e i < ts.length ∧ tkKind ts (e i) = 5 ∧ tkText ts (e i) = [44])
    (H : ∀ i n, ks[i]? = some n → ∀ w1, Bel (mv w p (stOf q e i)) w1 → Reads 43 #[.pointer (some ⟨p, 0, none⟩), .int .i64 0] p (e i) n w1) :
    Reads 128 #[.pointer (some ⟨p, 0, none⟩)] p (stOf q e ks.length) (callN (bs nm) ks) w := by
  have HT := Lib.hid (fun w1 (b : Bel w w1) => parse_take (h.bel b) (show q < ts.length by omega))
  have HT2 := Lib.hid (fun w1 (b : Bel (mv w p (q + 1)) w1) => parse_take (h.to b) hq)
  rw [hx] at HT
  have hp := h.plt
  have hgl := h.glt
  have hfw := h.few
  have Hh := Lib.hid h
  have HO := Lib.hid H
  have HF := Lib.hid hfirst
  have HL := Lib.hid hlast
  have HM := Lib.hid hmid
  have HST := Lib.hid hst
  have hund := Tryz.underlying26
  obtain ⟨i0, hi0, hz0, hz1, hz2⟩ := info_parts infoNode
  clear H h hfirst hlast hmid hx hst
  unfold Reads
  go_enter Tryz.func128, Tryz.ntmps128
  go_wp2_with (first
    | (go_at_call 63; refine (HT.out _ (by (repeat (first | exact Below.refl _ _ | with_reducible assumption | refine bel_ext ?_ _ _ | refine bel_alloc ?_ _ | refine bel_drew ?_ | refine bel_drewN ?_ _ | refine bel_set ?_ (by simp; try omega) _)))).mono ?_; rintro e' w' ⟨rfl, hb'⟩; obtain ⟨d1, o1, rfl⟩ := hb'.ext; clear hb' HT)
    | (go_at_call 63; refine (HT2.out _ (by (repeat (first | exact Below.refl _ _ | with_reducible assumption | refine bel_ext ?_ _ _ | refine bel_alloc ?_ _ | refine bel_drew ?_ | refine bel_drewN ?_ _ | refine bel_set ?_ (by simp; try omega) _ | refine bel_mv ?_ _ _ (by simp [size_setCell, size_ext, World.heap_alloc_size']; try omega) | refine bel_pset ?_ (by simp [size_setCell]; try omega) _)))).mono ?_; rintro e' w' ⟨rfl, hb'⟩; obtain ⟨d2, o2, rfl⟩ := hb'.ext; clear hb' HT2))
  have e0 : (q : Int) + 1 + 1 = ((q + 2 : Nat) : Int) := by omega
  rw [set_set, e0]
  obtain ⟨b4, hb4⟩ : ∃ b, w.heap.size + 1 + o1.size = b := ⟨_, rfl⟩
  rw [hb4]
  have hC := Lib.hid (CallS.init Hh.out (bs nm) ks d1 d2 o1 o2 b4 hb4)
  unfold nodeCells callH GNode.zero GVal.zero GCell.zero mv at hC
  generalize hW0 : ext _ _ _ = W0 at hC ⊢
  have hstu : Hid (q + 2 = stOf q e 0) := rfl
  clear hW0 hb4 e0
  go_loopg [] (ks.length) (fun k wr => ∃ i v ss, Hid (k + i = ks.length) ∧ i < ks.length ∧ Hid (CallS w p g cap fin sheet bad ts (bs nm) ks w.heap.size b4 (stOf q e i) i v ss wr))
  case atStart => exact ⟨0, _, [], rfl, h0, hC⟩
  case round =>
    obtain ⟨i, v, ss, hki, hil, hCi⟩ := hrel
    clear hC
    have hpsi := hCi.out.ps
    have hsti := HST.out.2 i hil
    have HS := Lib.hid (fun w1 (b : Bel wr w1) => parse_sign (hpsi.bel b) 0 (by omega) (by omega) ⟨#[41]⟩)
    have e41 : (⟨#[41]⟩ : ByteArray).toList = [41] := by rw [Lib.toList_data]
    have hkc : ((0 : Nat) : Int) = 0 := rfl
    rw [Nat.add_zero, e41, hkc, HF.out i hil] at HS
    obtain ⟨n, hn⟩ : ∃ n, ks[i]? = some n := ⟨_, List.getElem?_eq_getElem hil⟩
    have HOi := Lib.hid (HO.out i n hn)
    unfold Reads at HOi
    have hbi := hCi.out.bel
    have hpi := hpsi.plt
    have hb4i := lt_of_some hCi.out.nod
    have c12 : wr.cell? ⟨b4, 12, none⟩ = some v := node_cell hCi.out.nod 12
    have f12 : wr.frozen? ⟨b4, 12, none⟩ = false := node_free hCi.out.nod 12
    have hn4 := hCi.out.ne.2.2.2.2.1
    clear hpsi hsti e41 hkc
    go_wp2_with (first
      | (go_at_call 88; refine (HS.out _ (by (repeat (first | exact Below.refl _ _ | with_reducible assumption | refine bel_ext ?_ _ _ | refine bel_alloc ?_ _ | refine bel_drew ?_ | refine bel_drewN ?_ _ | refine bel_set ?_ (by simp; try omega) _)))).mono ?_; rintro e' w' ⟨rfl, hb'⟩; obtain ⟨d3, o3, rfl⟩ := hb'.ext; clear hb')
      | (go_at_call 43; refine (HOi.out _ (by (repeat (first | exact Below.refl _ _ | with_reducible assumption | refine bel_ext ?_ _ _ | refine bel_alloc ?_ _ | refine bel_drew ?_ | refine bel_drewN ?_ _ | refine bel_set ?_ (by simp; try omega) _)))).mono ?_; rintro e' w' ⟨v1, rfl, ⟨A, c, rfl, hr⟩, hb'⟩; obtain ⟨d4, o4, rfl⟩ := hb'.ext; clear hb'; unfold nodeV)
      | (at_builtin; refine wpList_append_own_at _ rfl _ _ 26 rfl w.heap.size 28 i0 (nodeV GNode.zero (.slice none 0 0)) 13 160 hund hi0 hz0 hz1 hz2 rfl (by decide) _ _ _ rfl
          (((ownsRow_bel (ownsRow_setCell_below hCi.out.own (a := ⟨p, 1, none⟩) hp _) (bel_ext_self _ _ _)).alloc _).alloc _) ⟨_, 0, none⟩ 1 1 (nodeCells n (.slice A n.kids.length c)) rfl rfl ?c1 ?c2 ?c3 ?c4 ?c5 ?_))
    case c1 =>
      intro j u hj
      rw [Lib.add_plain, Nat.zero_add]
      exact (World.cell?_alloc_at _ _ _ _ (by simp only [hsz, size_ext, size_setCell, Array.size_append])).trans (by simpa [nodeCells] using hj)
    case c2 =>
      intro u hu
      simp only [nodeCells, List.mem_cons, List.not_mem_nil, or_false] at hu
      rcases hu with hu | hu | hu | hu | hu | hu | hu | hu | hu | hu | hu | hu | hu <;> subst hu <;> rfl
    case c3 => unfold maxLen; omega
    case c4 => omega
    case c5 =>
      have h1 := hbi.size
      rw [mv_size] at h1
      simp only [hsz, size_ext, size_setCell]; omega
    · intro v' w1 hown' hgrow _ hloc
      obtain ⟨g', cap', rfl⟩ : ∃ g' cap', v' = .slice (some ⟨g', 0, none⟩) (i + 1) cap' := by
        rcases hown'.2 with ⟨_, h0'⟩ | ⟨g', cap', cur, hv, _⟩
        · omega
        · exact ⟨g', cap', hv⟩
      generalize hV : World.alloc (World.alloc _ _) _ = V at hgrow hloc
      have hVs : V.heap.size = wr.heap.size + (o3.size + o4.size) + 1 + 1 := by rw [← hV]; simp only [hsz, size_ext, size_setCell, Array.size_append]
      rw [← hVs] at hloc
      have hW : Bel (mv wr p (e i)) V := by rw [← hV]; exact bel_alloc (bel_alloc (bel_ext (Below.refl _ _) _ _) _) _
      have hrd : RdN (fun b => (ext wr d3 o3).heap.size ≤ b) V n (.slice A n.kids.length c) := by
        rw [mv_ext _ _ _ _ _ hpi, ext_ext] at hr
        rw [← hV]
        exact hr.bel (bel_alloc (bel_alloc (Below.refl _ _) _) _)
      have hS2 := Lib.hid (CallS.append hCi.out hW (by rw [size_ext]; omega) hn hrd hown' hgrow hloc)
      have hV4 : b4 < V.heap.size := Nat.lt_of_lt_of_le hb4i (by have := hW.size; rwa [mv_size] at this)
      have hne4 : some b4 ≠ v.ownBlock := fun h => hCi.out.ne.2.1 h.symm
      have hVw : V.heap[b4]? = wr.heap[b4]? := by
        rw [hW.block b4 (by rw [mv_size]; exact hb4i), mv_block _ _ _ _ (by omega)]
      have d12 : w1.cell? ⟨b4, 12, none⟩ = some v := by
        rw [World.cell?_of_block (w := wr) ((hgrow.block b4 hV4 hne4).trans hVw)]; exact c12
      have g12 : w1.frozen? ⟨b4, 12, none⟩ = false := by
        rw [World.frozen?_of_block (w := wr) ((hgrow.block b4 hV4 hne4).trans hVw)]; exact f12
      clear hV hVs hW hrd hr hgrow hloc hCi hVw hne4 hV4 c12 f12 hbi HS HOi hown'
      go_wp2_with fail
      generalize hW2 : World.setCell w1 _ _ = W2 at hS2 ⊢
      clear hW2 d12 g12
      have hps2 := hS2.out.ps
      have hp2 := hps2.plt
      have hl4 := lt_of_some hS2.out.nod
      have hl2 := lt_of_some hS2.out.res
      have e41 : (⟨#[41]⟩ : ByteArray).toList = [41] := by rw [Lib.toList_data]
      have e44 : (⟨#[44]⟩ : ByteArray).toList = [44] := by rw [Lib.toList_data]
      have hkc : ((0 : Nat) : Int) = 0 := rfl
      have q1 : ¬ b4 = p := by omega
      have q2 : ¬ p = b4 := by omega
      by_cases hlast : i + 1 = ks.length
      · obtain ⟨l1, l2, l3⟩ := HL.out
        have hi1 : ks.length - 1 = i := by omega
        rw [hi1] at l1 l2 l3
        have HS := Lib.hid (fun w1 (b : Bel W2 w1) => parse_sign (hps2.bel b) 0 (by omega) (by omega) ⟨#[41]⟩)
        have hy : ((5 : Int) == 5 && (([41] : Str) == [41])) = true := by decide
        rw [Nat.add_zero, e41, hkc, l2, l3, hy] at HS
        have HT := Lib.hid (fun w1 (b : Bel W2 w1) => parse_take (hps2.bel b) l1)
        have hN := hS2.out.nod
        have hZ := hS2.out.res
        have n4 := hS2.out.ne.2.2.1
        have k0 := node_cell hN 0
        have k1 := node_cell hN 1
        have k2 := node_cell hN 2
        have k3 := node_cell hN 3
        have k4 := node_cell hN 4
        have k5 := node_cell hN 5
        have k6 := node_cell hN 6
        have k7 := node_cell hN 7
        have k8 := node_cell hN 8
        have k9 := node_cell hN 9
        have k10 := node_cell hN 10
        have k11 := node_cell hN 11
        have k12 := node_cell hN 12
        have z0 := node_cell hZ 0
        have z1 := node_cell hZ 1
        have z2 := node_cell hZ 2
        have z3 := node_cell hZ 3
        have z4 := node_cell hZ 4
        have z5 := node_cell hZ 5
        have z6 := node_cell hZ 6
        have z7 := node_cell hZ 7
        have z8 := node_cell hZ 8
        have z9 := node_cell hZ 9
        have z10 := node_cell hZ 10
        have z11 := node_cell hZ 11
        have z12 := node_cell hZ 12
        have y0 := node_free hZ 0
        have y1 := node_free hZ 1
        have y2 := node_free hZ 2
        have y3 := node_free hZ 3
        have y4 := node_free hZ 4
        have y5 := node_free hZ 5
        have y6 := node_free hZ 6
        have y7 := node_free hZ 7
        have y8 := node_free hZ 8
        have y9 := node_free hZ 9
        have y10 := node_free hZ 10
        have y11 := node_free hZ 11
        have y12 := node_free hZ 12
        simp only [nodeCells, callH, GNode.zero, GVal.zero, GCell.zero, List.getElem?_cons_zero, List.getElem?_cons_succ] at k0 k1 k2 k3 k4 k5 k6 k7 k8 k9 k10 k11 k12 z0 z1 z2 z3 z4 z5 z6 z7 z8 z9 z10 z11 z12
        have q3 : ¬ p = w.heap.size := by omega
        have q4 : ¬ w.heap.size = p := by omega
        have q5 : ¬ b4 = w.heap.size := by omega
        have q6 : ¬ w.heap.size = b4 := by omega
        clear hps2 e41 e44 hkc hy l1 l2 l3 hN hZ n4
        refine (HS.out _ (Below.refl _ _)).mono ?_
        rintro e' w' ⟨rfl, hb'⟩
        obtain ⟨d5, o5, rfl⟩ := hb'.ext
        clear hb'
        go_wp2_with (first
          | (go_at_call 63; refine (HT.out _ (by (repeat (first | exact Below.refl _ _ | with_reducible assumption | refine bel_ext ?_ _ _ | refine bel_alloc ?_ _ | refine bel_drew ?_ | refine bel_drewN ?_ _ | refine bel_set ?_ (by simp; try omega) _)))).mono ?_; rintro e' w' ⟨rfl, hb'⟩; obtain ⟨d6, o6, rfl⟩ := hb'.ext; clear hb'))
        have e3 : ((e i : Nat) : Int) + 1 = ((e i + 1 : Nat) : Int) := by omega
        have e4 : stOf q e ks.length = e i + 1 := by rw [← hlast]; rfl
        rw [e3, e4]
        have hb3 : Bel (mv w p (e i + 1)) (mv W2 p (e i + 1)) := by
          have := bel_mv hS2.out.bel p (e i + 1) (by rw [mv_size]; exact hp)
          rwa [mv_mv] at this
        have hS3 := hS2.out.to (pos' := e i + 1) (bel_ext_self (mv W2 p (e i + 1)) d6 (o5 ++ o6))
        rw [hlast] at hS3
        generalize hWf : ext _ _ _ = Wf
        have hbf : Bel (mv w p (e i + 1)) Wf := by
          rw [← hWf]
          exact bel_ext (bel_pset (bel_pset (bel_pset (bel_pset (bel_pset (bel_pset (bel_pset (bel_pset (bel_pset (bel_pset (bel_pset (bel_pset (bel_pset hb3 (Nat.le_refl _) _) (Nat.le_refl _) _) (Nat.le_refl _) _) (Nat.le_refl _) _) (Nat.le_refl _) _) (Nat.le_refl _) _) (Nat.le_refl _) _) (Nat.le_refl _) _) (Nat.le_refl _) _) (Nat.le_refl _) _) (Nat.le_refl _) _) (Nat.le_refl _) _) (Nat.le_refl _) _) _ _
        have hnf : NodeR w.heap.size (callN (bs nm) ks) (.slice (some ⟨g', 0, none⟩) ks.length cap') Wf := by
          refine CallS.node hS3 rfl (by rw [bs_size]; omega) hks (fun b hne _ => ?_) ?_
          · rw [← hWf]
            refine ext_block _ _ _ _ _ (by simp only [size_setCell]) ?_
            simp only [block_setCell _ _ _ _ _ hne]
          · rw [← hWf]; simp only [size_ext, size_setCell]; omega
        have hB : (mv W2 p (e i + 1)).heap[w.heap.size]? = some (.cells (nodeCells GNode.zero (.slice none 0 0)).toArray 28 (0, 0)) := by
          rw [mv_block _ _ _ _ q4]; exact hS2.out.res
        have hR : Wf.heap[w.heap.size]? = some (.cells (nodeCells (callN (bs nm) ks) (.slice (some ⟨g', 0, none⟩) ks.length cap')).toArray 28 (0, 0)) := by
          rw [← hWf, heap_ext _ _ _ _ (by simp only [size_setCell]; exact hl2)]
          exact set13 hB _ _ _ _ _ _ _ _ _ _ _ _ _
        have r0 := node_cell hR 0
        have r1 := node_cell hR 1
        have r2 := node_cell hR 2
        have r3 := node_cell hR 3
        have r4 := node_cell hR 4
        have r5 := node_cell hR 5
        have r6 := node_cell hR 6
        have r7 := node_cell hR 7
        have r8 := node_cell hR 8
        have r9 := node_cell hR 9
        have r10 := node_cell hR 10
        have r11 := node_cell hR 11
        have r12 := node_cell hR 12
        simp only [nodeCells, callN, GVal.zero, GCell.zero, List.getElem?_cons_zero, List.getElem?_cons_succ] at r0 r1 r2 r3 r4 r5 r6 r7 r8 r9 r10 r11 r12
        clear hWf hS3 hb3 hB hR
        exact bodyPost_ret (v := .tuple #[nodeV (callN (bs nm) ks) (.slice (some ⟨g', 0, none⟩) ks.length cap'), .bool true]) (by unfold nodeV callN GVal.zero GCell.zero; simp [results, Tryz.results128, go_sem, r0, r1, r2, r3, r4, r5, r6, r7, r8, r9, r10, r11, r12]) rfl ⟨_, rfl, hnf, hbf⟩
      · have hlt : i + 1 < ks.length := by omega
        obtain ⟨l1, l2, l3⟩ := HM.out i hlt
        have HS := Lib.hid (fun w1 (b : Bel W2 w1) => parse_sign (hps2.bel b) 0 (by omega) (by omega) ⟨#[41]⟩)
        have HS' := Lib.hid (fun w1 (b : Bel W2 w1) => parse_sign (hps2.bel b) 0 (by omega) (by omega) ⟨#[44]⟩)
        have hy : ((5 : Int) == 5 && (([44] : Str) == [41])) = false := by decide
        have hy' : ((5 : Int) == 5 && (([44] : Str) == [44])) = true := by decide
        rw [Nat.add_zero, e41, hkc, l2, l3, hy] at HS
        rw [Nat.add_zero, e44, hkc, l2, l3, hy'] at HS'
        have HT := Lib.hid (fun w1 (b : Bel W2 w1) => parse_take (hps2.bel b) l1)
        have k12 : W2.cell? ⟨b4, 12, none⟩ = some (.slice (some ⟨g', 0, none⟩) (i + 1) cap') := node_cell hS2.out.nod 12
        have h20 : ((i : Int) + 1 == 20) = false := by rw [beq_eq_false_iff_ne]; omega
        clear hps2 e41 e44 hkc hy hy' l1 l2 l3 hlast
        refine (HS.out _ (Below.refl _ _)).mono ?_
        rintro e' w' ⟨rfl, hb'⟩
        obtain ⟨d5, o5, rfl⟩ := hb'.ext
        clear hb'
        go_wp2_with (first
          | (go_at_call 88; refine (HS'.out _ (by (repeat (first | exact Below.refl _ _ | with_reducible assumption | refine bel_ext ?_ _ _ | refine bel_alloc ?_ _ | refine bel_drew ?_ | refine bel_drewN ?_ _ | refine bel_set ?_ (by simp; try omega) _)))).mono ?_; rintro e' w' ⟨rfl, hb'⟩; obtain ⟨d7, o7, rfl⟩ := hb'.ext; clear hb')
          | (go_at_call 63; refine (HT.out _ (by (repeat (first | exact Below.refl _ _ | with_reducible assumption | refine bel_ext ?_ _ _ | refine bel_alloc ?_ _ | refine bel_drew ?_ | refine bel_drewN ?_ _ | refine bel_set ?_ (by simp; try omega) _)))).mono ?_; rintro e' w' ⟨rfl, hb'⟩; obtain ⟨d6, o6, rfl⟩ := hb'.ext; clear hb'))
        have hk' := hki.out
        go_roundg (gk - 1)
        case measure => omega
        case rel =>
          have e3 : ((e i : Nat) : Int) + 1 = ((e i + 1 : Nat) : Int) := by omega
          refine ⟨i + 1, _, _, (show _ = _ by omega), hlt, Lib.hid (hS2.out.to (pos' := e i + 1) ?_)⟩
          rw [e3]
          exact bel_ext_self _ _ _

end Go.Proofs.YtckalplhaggaoaaGreatDoor
