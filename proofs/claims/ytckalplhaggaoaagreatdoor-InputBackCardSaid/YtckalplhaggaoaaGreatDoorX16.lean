/- Towards InputBack: what is shown as input is read back as it was, for every entry and every text; no condition. Part 16 of 28. -/
import Derived.Test.YtckalplhaggaoaaGreatDoorX15
import Derived.Maps.AppendAt
set_option linter.unusedVariables false
set_option linter.unusedSimpArgs false
namespace Go.Proofs.YtckalplhaggaoaaGreatDoor
open Go.RowKit

/-- A node's cells, as a row. -/
def nodeCells (n : GNode) (s : Value) : List Value := [.int .i64 n.kind, .string n.op, .string n.name, .int .i64 n.val.kind, .int .i64 n.val.n, .string n.val.s, .string n.cell.sheet, .int .i64 n.cell.col, .int .i64 n.cell.row, .string n.to.sheet, .int .i64 n.to.col, .int .i64 n.to.row, s]
def rowsOf : List GNode → List Value → List Value
  | n :: ns, s :: ss => nodeCells n s ++ rowsOf ns ss
  | _, _ => []
theorem rowsOf_append : ∀ (a b : List GNode) (s t : List Value), a.length = s.length → rowsOf (a ++ b) (s ++ t) = rowsOf a s ++ rowsOf b t
  | [], b, [], t, _ => rfl
  | n :: ns, b, s :: ss, t, h => by
    simp only [List.cons_append, rowsOf, List.append_assoc]
    rw [rowsOf_append ns b ss t (by simpa using h)]
theorem rowsOf_get : ∀ (a : List GNode) (s : List Value) (j k : Nat) (n : GNode) (x v : Value), a[j]? = some n → s[j]? = some x → (nodeCells n x)[k]? = some v → (rowsOf a s)[j * 13 + k]? = some v
  | m :: a, y :: s, 0, k, n, x, v, h1, h2, h3 => by
    simp only [List.getElem?_cons_zero, Option.some.injEq] at h1 h2
    subst h1 h2
    have hk : k < (nodeCells m y).length := (List.getElem?_eq_some_iff.1 h3).1
    simp only [rowsOf, Nat.zero_mul, Nat.zero_add]
    rw [List.getElem?_append_left hk]; exact h3
  | m :: a, y :: s, j + 1, k, n, x, v, h1, h2, h3 => by
    simp only [List.getElem?_cons_succ] at h1 h2
    have := rowsOf_get a s j k n x v h1 h2 h3
    have hl : (nodeCells m y).length = 13 := rfl
    simp only [rowsOf]
    rw [List.getElem?_append_right (by rw [hl]; omega), hl]
    have e : (j + 1) * 13 + k - 13 = j * 13 + k := by omega
    rw [e]; exact this
/-- A call's node without its kids. -/
def callH (nm : ByteArray) : GNode := ⟨6, ⟨#[]⟩, nm, GVal.zero, GCell.zero, GCell.zero, []⟩
def callN (nm : ByteArray) (ks : List GNode) : GNode := ⟨6, ⟨#[]⟩, nm, GVal.zero, GCell.zero, GCell.zero, ks⟩
theorem callN_ok (nm : ByteArray) (ks : List GNode) (h : nm.size ≤ 1000) (hk : ks.length ≤ 20) : okTop (callN nm ks) :=
  ⟨by show (-9223372036854775808 : Int) ≤ 6; decide, by show (6 : Int) ≤ _; decide, by show (0 : Nat) ≤ _; decide, by show nm.size ≤ _; omega, okVal_zero, okCell_zero, okCell_zero, by show ks.length ≤ _; omega⟩

theorem node_cell {w : World} {b : Nat} {n : GNode} {s : Value} {T : TypeId} (h : w.heap[b]? = some (.cells (nodeCells n s).toArray T (0, 0))) (k : Nat) : w.cell? ⟨b, k, none⟩ = (nodeCells n s)[k]? := by
  rw [Lib.cell_of_heap h]; simp
theorem node_free {w : World} {b : Nat} {n : GNode} {s : Value} {T : TypeId} (h : w.heap[b]? = some (.cells (nodeCells n s).toArray T (0, 0))) (k : Nat) : w.frozen? ⟨b, k, none⟩ = false := Lib.frozen_of_heap h k

/-- What the loop of a call carries: i kids are read, the parser stands at pos. -/
structure CallS (w : World) (p g cap : Nat) (fin : Int) (sheet : ByteArray) (bad : Int) (ts : List (Int × Int × Str)) (nm : ByteArray) (ks : List GNode) (b2 b4 pos i : Nat) (v : Value) (ss : List Value) (wr : World) : Prop where
  ps : PS wr p g cap fin sheet bad ts pos
  bel : Bel (mv w p pos) wr
  res : wr.heap[b2]? = some (.cells (nodeCells GNode.zero (.slice none 0 0)).toArray 28 (0, 0))
  nod : wr.heap[b4]? = some (.cells (nodeCells (callH nm) v).toArray 28 (0, 0))
  own : wr.ownsRow w.heap.size 28 13 v i (rowsOf (ks.take i) ss)
  len : ss.length = i ∧ i ≤ ks.length
  kids : ∀ j n s, j < i → ks[j]? = some n → ss[j]? = some s → RdN (fun b => w.heap.size ≤ b ∧ some b ≠ v.ownBlock ∧ b ≠ b2 ∧ b ≠ b4) wr n s
  ne : v.ownBlock ≠ some b2 ∧ v.ownBlock ≠ some b4 ∧ b2 ≠ b4 ∧ w.heap.size ≤ b2 ∧ w.heap.size ≤ b4 ∧ p < w.heap.size ∧ g < w.heap.size

variable {w wr w' : World} {p g cap : Nat} {fin bad : Int} {sheet : ByteArray} {ts : List (Int × Int × Str)} {nm : ByteArray} {ks : List GNode} {b2 b4 pos i : Nat} {v : Value} {ss : List Value}

theorem mv_block (w : World) (p q b : Nat) (h : b ≠ p) : (mv w p q).heap[b]? = w.heap[b]? := block_setCell _ _ _ _ _ h
theorem mv_size (w : World) (p q : Nat) : (mv w p q).heap.size = w.heap.size := size_setCell _ _ _ _
theorem CallS.to (h : CallS w p g cap fin sheet bad ts nm ks b2 b4 pos i v ss wr) {pos' : Nat} (hb : Bel (mv wr p pos') w') : CallS w p g cap fin sheet bad ts nm ks b2 b4 pos' i v ss w' := by
  obtain ⟨n1, n2, n3, n4, n5, n6, n7⟩ := h.ne
  have hk : ∀ b, b ≠ p → b < wr.heap.size → w'.heap[b]? = wr.heap[b]? := fun b hne hlt => by
    rw [hb.block b (by rw [mv_size]; exact hlt), mv_block _ _ _ _ hne]
  have hs : wr.heap.size ≤ w'.heap.size := by have := hb.size; rwa [mv_size] at this
  refine ⟨h.ps.to hb, ?_, ?_, ?_, ?_, h.len, ?_, h.ne⟩
  · have hws : w.heap.size ≤ wr.heap.size := by have := h.bel.size; rwa [mv_size] at this
    have b1 := bel_mv h.bel p pos' (by rw [mv_size]; exact n6)
    rw [mv_mv] at b1
    exact b1.then_ hb
  · rw [hk _ (by omega) (lt_of_some h.res)]; exact h.res
  · rw [hk _ (by omega) (lt_of_some h.nod)]; exact h.nod
  · have h2 : (mv wr p pos').ownsRow w.heap.size 28 13 v i (rowsOf (ks.take i) ss) := ownsRow_setCell_below h.own (a := ⟨p, 1, none⟩) n6 _
    exact ownsRow_bel h2 hb
  · intro j n s h1 h2 h3
    exact RdN.keep (fun b hb hlt => hk b (by have := hb.1; omega) hlt) hs n s (h.kids j n s h1 h2 h3)

mutual
theorem RdN.lt {Z : Nat → Prop} {w : World} : ∀ (n : GNode) (s : Value), RdN Z w n s → RdN (fun b => Z b ∧ b < w.heap.size) w n s
  | ⟨k, op, nm, v, c, t, kids⟩, s => by
    unfold RdN
    rintro ⟨h0, A, cap, h1, h2, h3⟩
    refine ⟨h0, A, cap, h1, h2, fun hp => ?_⟩
    obtain ⟨g, o, a1, a2, a3, a4⟩ := h3 hp
    exact ⟨g, o, a1, ⟨a2, a3⟩, a3, RdL.lt g kids o a4⟩
theorem RdL.lt {Z : Nat → Prop} {w : World} (g : Nat) : ∀ (l : List GNode) (o : Nat), RdL Z w g l o → RdL (fun b => Z b ∧ b < w.heap.size) w g l o
  | [], o => by unfold RdL; exact fun h => h
  | n :: ns, o => by
    unfold RdL
    rintro ⟨⟨s, h1, h2⟩, h3⟩
    exact ⟨⟨s, RdN.lt n s h1, h2⟩, RdL.lt g ns (o + 13) h3⟩
end
theorem RdL.of {Z : Nat → Prop} {w : World} {g : Nat} : ∀ (l : List GNode) (o : Nat), (∀ j n, l[j]? = some n → ∃ s, RdN Z w n s ∧ nodeAt w g (o + j * 13) n s) → RdL Z w g l o
  | [], o, _ => by unfold RdL; trivial
  | n :: ns, o, h => by
    unfold RdL
    refine ⟨by simpa using h 0 n rfl, RdL.of ns (o + 13) fun j m hm => ?_⟩
    have := h (j + 1) m (by simpa using hm)
    have e : o + (j + 1) * 13 = o + 13 + j * 13 := by omega
    rwa [e] at this
theorem setCell_node {w : World} {b : Nat} {n : GNode} {s u : Value} {T : TypeId} (h : w.heap[b]? = some (.cells (nodeCells n s).toArray T (0, 0))) : (w.setCell ⟨b, 12, none⟩ u).heap[b]? = some (.cells (nodeCells n u).toArray T (0, 0)) := by
  have hlt := lt_of_some h
  have h' : w.heap[b] = .cells (nodeCells n s).toArray T (0, 0) := by simpa [Array.getElem?_eq_getElem hlt] using h
  show (w.heap.modify b _)[b]? = _
  rw [Array.getElem?_eq_getElem (by simpa using hlt), Array.getElem_modify_self, h']
  rfl

theorem CallS.append (h : CallS w p g cap fin sheet bad ts nm ks b2 b4 pos i v ss wr) {e : Nat} {W w1 : World} (hW : Bel (mv wr p e) W) {B : Nat} (hB : wr.heap.size ≤ B) {n : GNode} {s : Value} (hn : ks[i]? = some n)
    (hrd : RdN (fun b => B ≤ b) W n s) {v' : Value} (hown : w1.ownsRow w.heap.size 28 13 v' (i + 1) (rowsOf (ks.take i) ss ++ nodeCells n s)) (hgrow : W.grownBy w1 v.ownBlock)
    (hloc : v'.ownBlock = v.ownBlock ∨ v'.ownBlock = some W.heap.size) :
    CallS w p g cap fin sheet bad ts nm ks b2 b4 e (i + 1) v' (ss ++ [s]) (w1.setCell ⟨b4, 12, none⟩ v') := by
  have hS := h.to hW
  obtain ⟨n1, n2, n3, n4, n5, n6, n7⟩ := h.ne
  have hil : i < ks.length := (List.getElem?_eq_some_iff.1 hn).1
  have l2 := lt_of_some hS.res
  have l4 := lt_of_some hS.nod
  have l2' := lt_of_some h.res
  have l4' := lt_of_some h.nod
  have hrow := hS.own.lt
  have hrow' := h.own.lt
  have hWs : wr.heap.size ≤ W.heap.size := by have := hW.size; rwa [mv_size] at this
  have hw1 := hgrow.size
  have hs2 : (w1.setCell ⟨b4, 12, none⟩ v').heap.size = w1.heap.size := size_setCell _ _ _ _
  have hk : ∀ b, b ≠ b4 → some b ≠ v.ownBlock → b < W.heap.size → (w1.setCell ⟨b4, 12, none⟩ v').heap[b]? = W.heap[b]? := fun b h1 h2 h3 => by
    rw [block_setCell _ _ _ _ _ h1, hgrow.block b h3 h2]
  have hno : ∀ b, b < w.heap.size → some b ≠ v.ownBlock := fun b hb e => by
    have := (hrow b e.symm).1; omega
  have m2 : v'.ownBlock ≠ some b2 := by
    rcases hloc with e | e <;> rw [e]
    · exact n1
    · intro e; injection e with e; omega
  have m4 : v'.ownBlock ≠ some b4 := by
    rcases hloc with e | e <;> rw [e]
    · exact n2
    · intro e; injection e with e; omega
  have hws : w.heap.size ≤ W.heap.size := by have := hS.bel.size; rwa [mv_size] at this
  refine ⟨?_, ?_, ?_, ?_, ?_, ?_, ?_, m2, m4, n3, n4, n5, n6, n7⟩
  · have hp := hS.ps
    refine ⟨by rw [hk p (by omega) (hno p n6) hp.plt]; exact hp.blk, ?_, hp.few, hp.room, hp.ne⟩
    obtain ⟨cur, r1, r2⟩ := hp.row
    exact ⟨cur, by rw [hk g (by omega) (hno g n7) hp.glt]; exact r1, r2⟩
  · have hb := hS.bel
    refine ⟨?_, ?_, ?_, ?_, fun k hlt => ?_⟩
    · rw [show (w1.setCell ⟨b4, 12, none⟩ v').os = w1.os from rfl, hgrow.os]; exact hb.os
    · rw [show (w1.setCell ⟨b4, 12, none⟩ v').tape = w1.tape from rfl, hgrow.tape]; exact hb.tape
    · rw [show (w1.setCell ⟨b4, 12, none⟩ v').output = w1.output from rfl, hgrow.output]; exact hb.output
    · rw [hs2, mv_size]; omega
    · rw [mv_size] at hlt
      rw [hk k (by omega) (hno k hlt) (by omega)]; exact hb.block k (by rw [mv_size]; exact hlt)
  · rw [hk b2 n3 (fun e => n1 e.symm) l2]; exact hS.res
  · refine setCell_node (s := v) ?_
    rw [hgrow.block b4 l4 (fun e => n2 e.symm)]; exact hS.nod
  · have : rowsOf (ks.take (i + 1)) (ss ++ [s]) = rowsOf (ks.take i) ss ++ nodeCells n s := by
      have e1 : ks.take (i + 1) = ks.take i ++ [n] := by rw [List.take_add_one, hn]; rfl
      rw [e1, rowsOf_append _ _ _ _ (by rw [List.length_take, h.len.1]; omega)]
      simp [rowsOf]
    rw [this]
    exact ownsRow_setCell_other hown m4 _
  · rw [List.length_append, h.len.1]; exact ⟨rfl, hil⟩
  · intro j m t hj hm ht
    have fin : ∀ {m : GNode} {t : Value}, RdN (fun b => w.heap.size ≤ b ∧ some b ≠ v.ownBlock ∧ b ≠ b2 ∧ b ≠ b4) W m t → RdN (fun b => w.heap.size ≤ b ∧ some b ≠ v'.ownBlock ∧ b ≠ b2 ∧ b ≠ b4) (w1.setCell ⟨b4, 12, none⟩ v') m t := fun hr => by
      have r1 := RdN.lt _ _ hr
      have r2 := RdN.keep (w' := w1.setCell ⟨b4, 12, none⟩ v') (fun b hb hlt => hk b hb.1.2.2.2 hb.1.2.1 hlt) (by rw [hs2]; exact hw1) _ _ r1
      refine RdN.mono (fun b hb => ⟨hb.1.1, ?_, hb.1.2.2⟩) _ _ r2
      rcases hloc with e | e <;> rw [e]
      · exact hb.1.2.1
      · intro e; injection e with e; have := hb.2; omega
    by_cases hj2 : j < i
    · rw [List.getElem?_append_left (by rw [h.len.1]; exact hj2)] at ht
      exact fin (hS.kids j m t hj2 hm ht)
    · obtain rfl : j = i := by omega
      rw [hn] at hm
      injection hm with hm
      subst hm
      rw [List.getElem?_append_right (by rw [h.len.1]; exact Nat.le_refl _), h.len.1, Nat.sub_self] at ht
      simp only [List.getElem?_cons_zero, Option.some.injEq] at ht
      subst ht
      refine fin (RdN.mono (fun b hb => ⟨?_, ?_, ?_, ?_⟩) _ _ hrd)
      · have := h.bel.size; rw [mv_size] at this; omega
      · intro e; have := (hrow' b e.symm).2; omega
      · omega
      · omega

theorem CallS.node (h : CallS w p g cap fin sheet bad ts nm ks b2 b4 pos i v ss wr) (hi : i = ks.length) (hnm : nm.size ≤ 1000) (hk20 : ks.length ≤ 20) {Wf : World} (hk : ∀ b, b ≠ b2 → b < wr.heap.size → Wf.heap[b]? = wr.heap[b]?) (hs : wr.heap.size ≤ Wf.heap.size) :
    NodeR w.heap.size (callN nm ks) v Wf := by
  subst hi
  obtain ⟨n1, n2, n3, n4, n5, n6, n7⟩ := h.ne
  by_cases h0 : 0 < ks.length
  · obtain ⟨gr, cp, hv, g1, g2⟩ : ∃ g cap, v = .slice (some ⟨g, 0, none⟩) ks.length cap ∧ w.heap.size ≤ g ∧ g < wr.heap.size := by
      rcases h.own.2 with ⟨_, h0'⟩ | ⟨g, cap, cur, hv, hb, hg, _⟩
      · omega
      · exact ⟨g, cap, hv, hb, lt_of_some hg⟩
    have hcap : ks.length ≤ cp := by
      rcases h.own.2 with ⟨_, h0'⟩ | ⟨g, cap, cur, hv', hb, hg, hc, _⟩
      · omega
      · rw [hv] at hv'; injection hv' with e1 e2 e3; omega
    have hg2 : gr ≠ b2 := fun e => n1 (by rw [hv, ← e]; rfl)
    refine ⟨some ⟨gr, 0, none⟩, cp, hv, ?_⟩
    unfold RdN callN
    refine ⟨callN_ok nm ks hnm hk20, some ⟨gr, 0, none⟩, cp, hv, hcap, fun _ => ⟨gr, 0, rfl, g1, Nat.lt_of_lt_of_le g2 hs, RdL.of ks 0 fun j n hn => ?_⟩⟩
    have hj : j < ks.length := (List.getElem?_eq_some_iff.1 hn).1
    obtain ⟨s, hsj⟩ : ∃ s, ss[j]? = some s := ⟨_, List.getElem?_eq_getElem (by rw [h.len.1]; exact hj)⟩
    refine ⟨s, RdN.mono (fun b hb => hb.1) _ _ (RdN.keep (fun b hb hlt => hk b hb.2.2.1 hlt) hs _ _ (h.kids j n s hj hn hsj)), ?_⟩
    have hrow := h.own
    rw [List.take_length] at hrow
    have hc : ∀ k u, (nodeCells n s)[k]? = some u → Wf.cell? ⟨gr, 0 + j * 13 + k, none⟩ = some u := fun k u hu => by
      rw [World.cell?_of_block (w := wr) (hk gr hg2 g2), Nat.zero_add]
      have := hrow.cells (g := gr) (by rw [hv]; rfl) (j * 13 + k) u (rowsOf_get ks ss j k n s u hn hsj hu)
      rwa [Lib.add_plain, Nat.zero_add] at this
    exact ⟨hc 0 _ rfl, hc 1 _ rfl, hc 2 _ rfl, hc 3 _ rfl, hc 4 _ rfl, hc 5 _ rfl, hc 6 _ rfl, hc 7 _ rfl, hc 8 _ rfl, hc 9 _ rfl, hc 10 _ rfl, hc 11 _ rfl, hc 12 _ rfl⟩
  · have hk0 : ks = [] := List.eq_nil_of_length_eq_zero (by omega)
    subst hk0
    have hv : ∃ A c, v = .slice A 0 c := by
      rcases h.own.2 with ⟨hv, _⟩ | ⟨g, cap, cur, hv, _⟩
      · exact ⟨_, _, hv⟩
      · exact ⟨_, _, hv⟩
    obtain ⟨A, c, hv⟩ := hv
    refine ⟨A, c, hv, ?_⟩
    unfold RdN callN
    exact ⟨callN_ok nm [] hnm hk20, A, c, hv, Nat.zero_le _, fun h => absurd h (by simp)⟩

end Go.Proofs.YtckalplhaggaoaaGreatDoor
