/- Towards InputBack: what is shown as input is read back as it was, for every entry and every text; no condition. Part 9 of 28. -/
import Derived.Test.YtckalplhaggaoaaGreatDoorX07
import Derived.Test.YtckalplhaggaoaaGreatDoorX08
import Derived.BigQuiet
set_option linter.unusedVariables false
set_option linter.unusedSimpArgs false
namespace Go.Proofs.YtckalplhaggaoaaGreatDoor
open Go.RowKit

inductive Splits : Str → List (Int × Str) → Prop
  | nil : Splits [] []
  | cons {l : Str} {k : Int} {t r : Str} {ts : List (Int × Str)} (h : TokAt l k t r) (hs : Splits r ts) : Splits l ((k, t) :: ts)

theorem TokAt.suffix {l : Str} {k : Int} {t r : Str} (h : TokAt l k t r) : ∃ d, l = d ++ r ∧ d ≠ [] ∧ ∀ c d', d = c :: d' → c ≠ 32 := by
  cases h with
  | num d r hd ha hr =>
    refine ⟨t, rfl, hd, fun c d' e => ?_⟩
    rw [e] at ha
    simp [digitc] at ha
    intro h32; rw [h32] at ha; revert ha; simp
  | word c d r hc => exact ⟨c :: d, rfl, by simp, fun c' d' e => by injection e with e1 e2; rw [← e1]; intro h32; rw [h32] at hc; revert hc; decide⟩
  | name c d r hc => exact ⟨c :: d, rfl, by simp, fun c' d' e => by injection e with e1 e2; rw [← e1]; intro h32; rw [h32] at hc; revert hc; decide⟩
  | text t r hr => exact ⟨34 :: (dbl t ++ [34]), by simp, by simp, fun c' d' e => by injection e with e1 e2; rw [← e1]; decide⟩
  | sign2 x y r h2 =>
    have := sign2_mem h2
    exact ⟨[x, y], rfl, by simp, fun c' d' e => by injection e with e1 e2; rw [← e1]; intro h32; rw [h32] at this; revert this; decide⟩
  | sign1 x r hx h2 => exact ⟨[x], rfl, by simp, fun c' d' e => by injection e with e1 e2; rw [← e1]; intro h32; rw [h32] at hx; revert hx; decide⟩

/-- The cells of tokens. -/
def tokCells : List (Int × Int × Str) → List Value
  | [] => []
  | (k, a, t) :: r => .int .i64 k :: .int .i64 a :: .string (bs t) :: tokCells r
theorem tokCells_append : ∀ a b, tokCells (a ++ b) = tokCells a ++ tokCells b
  | [], b => rfl
  | (k, a, t) :: r, b => by simp [tokCells, tokCells_append r b]
theorem tokCells_len : ∀ l, (tokCells l).length = l.length * 3
  | [] => rfl
  | (k, a, t) :: r => by simp [tokCells, tokCells_len r]; omega
def kt (x : Int × Int × Str) : Int × Str := (x.1, x.2.2)

theorem infoTok : (Tryz.prog.info? 82).map (fun i => (i.zero, i.size, i.bytes)) = some (some (.agg #[.int .i64 0, .int .i64 0, .string ⟨#[]⟩]), 3, 32) := by kernel_rfl

/-- The tokens lie there. -/
def splitP (B : Nat) (ts : List (Int × Str)) (v : Value) (w' : World) : Prop := ∃ tl, w'.ownsRow B 82 3 v ts.length (tokCells tl) ∧ tl.map kt = ts

set_option maxHeartbeats 4000000 in
set_option maxRecDepth 100000 in
theorem token_Split (s : ByteArray) (hs : s.size ≤ 200) (ts : List (Int × Str)) (h : Splits s.data.toList ts) (w : World) :
    Calls Tryz.prog 41 #[.string s] w fun e w' => ∃ v, e = .returned (.tuple #[v, .int .i64 (-1), .int .i64 0]) ∧ splitP w.heap.size ts v w' ∧ Bel w w' := by
  have H := Lib.hid h
  have hlen : Hid (ts.length ≤ s.size) := by
    show _ ≤ _
    have : ∀ l ts, Splits l ts → ts.length ≤ l.length := fun l ts h => by
      induction h with
      | nil => simp
      | cons h _ ih =>
        obtain ⟨d, h1, h2, _⟩ := h.suffix
        have := List.length_pos_iff.2 h2
        rw [h1]; simp; omega
    have := this _ _ h
    rwa [len_data] at this
  clear h
  have hund := Tryz.underlying68
  obtain ⟨i0, hi0, hz0, hz1, hz2⟩ := info_parts infoTok
  have hb200 : (s.size : Int) ≤ 200 := by omega
  go_enter Tryz.func41, Tryz.ntmps41
  go_wp2
  go_loopw [5, 6] (fun v q wr => ∃ (a : Nat) (tl : List (Int × Int × Str)) (post : List (Int × Str)), q = .int .i64 a ∧ a ≤ s.size ∧ Hid (Splits (s.data.toList.drop a) post) ∧ Hid (tl.map kt ++ post = ts) ∧ wr.ownsRow w.heap.size 82 3 v tl.length (tokCells tl) ∧ Bel w wr) (fun _ q _ => s.size - (intOf q).toNat)
  case atStart => exact ⟨0, [], ts, rfl, Nat.zero_le _, H, rfl, World.ownsRow_nil _ _ _ _, Below.refl _ _⟩
  case round =>
    obtain ⟨a, tl, post, rfl, ha, hsp, hts, hown, hb⟩ := hrel
    have hbs := hb.size
    have htl : tl.length ≤ 200 := by
      have h1 := hlen.out; have h2 := congrArg List.length hts.out
      rw [List.length_append, List.length_map] at h2; omega
    by_cases hlt : a < s.size
    · have hal : (a : Int) < s.size := by omega
      obtain ⟨c, r0, hcr⟩ : ∃ c r0, s.data.toList.drop a = c :: r0 := by
        cases hd : s.data.toList.drop a with
        | nil =>
          have := congrArg List.length hd
          rw [List.length_drop, len_data] at this; simp at this; omega
        | cons c r0 => exact ⟨c, r0, rfl⟩
      have hsp' := hsp.out
      generalize hL : s.data.toList.drop a = L at hsp'
      cases hsp' with
      | nil => rw [hcr] at hL; cases hL
      | @cons _ k t r ts' htok hsp2 =>
        obtain ⟨d, hd1, hd2, hd3⟩ := htok.suffix
        have HN := Lib.hid (fun w1 => token_next s a (by omega) k L t r htok hL ha w1)
        have hdr : s.data.toList.drop (a + d.length) = r := at_skip (by rw [hL, hd1])
        have hll := at_len (hL.trans hd1) ha
        rw [List.length_append] at hll
        have hdp := List.length_pos_iff.2 hd2
        have hne : ((s[a].toNat : Int) == 32) = false := by
          obtain ⟨_, hg⟩ := at_get hcr
          rw [hg, beq_eq_false_iff_ne]
          intro e
          have hc32 : c = 32 := by
            apply UInt8.toNat_inj.1
            have : (32 : UInt8).toNat = 32 := rfl
            omega
          rw [hcr, hd1] at hL
          cases d with
          | nil => exact hd2 rfl
          | cons c' d' =>
            injection hL with h1 h2
            exact hd3 c' d' rfl (by rw [← h1]; exact hc32)
        obtain ⟨e, he⟩ : ∃ e : Nat, e = a + d.length := ⟨_, rfl⟩
        have hee : (s.size : Int) - r.length = e := by omega
        rw [hee] at HN
        rw [← he] at hdr
        have hsp3 : Hid (Splits (s.data.toList.drop e) ts') := by show Splits _ _; rw [hdr]; exact hsp2
        have hts2 : Hid ((tl ++ [(k, (a : Int), t)]).map kt ++ ts' = ts) := by show _ = _; rw [← hts.out]; simp [kt]
        have hea : a < e := by omega
        have hes : e ≤ s.size := by omega
        have htc : Hid (tokCells (tl ++ [(k, (a : Int), t)]) = tokCells tl ++ [.int .i64 k, .int .i64 (a : Int), .string (bs t)]) := by show _ = _; rw [tokCells_append]; rfl
        clear hcr hd1 hd3 hdr hll hdp hee hsp hsp2 htok hL he hd2 H hts
        go_wp2_with (first
          | (go_at_call 58; refine (HN.out _).mono ?_; rintro e' w' ⟨rfl, hb'⟩; have hown2 := ownsRow_bel hown hb'; obtain ⟨d', o', rfl⟩ := hb'.ext; clear hb')
          | (at_builtin; refine wpList_append_own _ rfl _ _ 68 rfl w.heap.size 82 i0 (.agg #[.int .i64 0, .int .i64 0, .string ⟨#[]⟩]) 3 32 hund hi0 hz0 hz1 hz2 rfl (by decide) _ _ _ rfl ((hown2.alloc _).alloc _) ⟨_, 0, none⟩ 1 1 [.int .i64 k, .int .i64 (a : Int), .string (bs t)] rfl rfl ?c1 ?c2 ?c3 ?c4 ?c5 ?_))
        case c1 =>
          have hz : ∀ (o : Obj), ((ext wr d' o').alloc o).heap.size = wr.heap.size + o'.size + 1 := fun o => by show (Array.push _ _).size = _; rw [Array.size_push, size_ext]
          intro j u hj
          match j, hj with
          | 0, hj => simp at hj; subst hj; exact (World.cell?_alloc_at _ _ _ _ (hz _).symm).trans rfl
          | 1, hj => simp at hj; subst hj; exact (World.cell?_alloc_at _ _ _ _ (hz _).symm).trans rfl
          | 2, hj => simp at hj; subst hj; exact (World.cell?_alloc_at _ _ _ _ (hz _).symm).trans rfl
        case c2 =>
          intro u hu
          simp only [List.mem_cons, List.not_mem_nil, or_false] at hu
          rcases hu with hu | hu | hu <;> subst hu <;> rfl
        case c3 => unfold maxLen; omega
        case c4 => omega
        case c5 => show _ ≤ (Array.push _ _).size; rw [Array.size_push]; show _ ≤ (Array.push _ _).size + 1; rw [Array.size_push, size_ext]; omega
        · intro v' w1 hown' hgrow _
          have hge := ownBlock_ge hown
          have hb2 : Bel w w1 := Below.grown (w := _) (row := _) (by (repeat (first | exact Below.refl _ _ | with_reducible assumption | refine bel_ext ?_ _ _ | refine bel_alloc ?_ _ | refine bel_drew ?_ | refine bel_drewN ?_ _ | refine bel_set ?_ (by simp; try omega) _))) hgrow (by show _ ≤ (Array.push _ _).size; rw [Array.size_push]; show _ ≤ (Array.push _ _).size + 1; rw [Array.size_push, size_ext]; omega) hge
          rw [← htc.out] at hown'
          have hln : (tl ++ [(k, (a : Int), t)]).length = tl.length + 1 := by simp
          rw [← hln] at hown'
          clear hgrow hge hown hown2 HN htc
          go_wp2
          go_roundw
          case rel => exact ⟨e, _, ts', by go_num, hes, hsp3, hts2, hown', hb2⟩
          case measure => simp [intOf]; omega
    · obtain rfl : a = s.size := by omega
      have hal : ¬ ((s.size : Int) < s.size) := by omega
      have hpost : Hid (tl.map kt = ts) := by
        show _ = _
        have h1 := hsp.out
        rw [List.drop_eq_nil_of_le (by rw [len_data]; exact Nat.le_refl _)] at h1
        cases post with
        | nil => have := hts.out; rwa [List.append_nil] at this
        | cons x xs =>
          exfalso
          cases h1 with
          | cons h hs =>
            obtain ⟨d, h1, h2, _⟩ := h.suffix
            have := congrArg List.length h1
            rw [List.length_append] at this
            exact h2 (List.eq_nil_of_length_eq_zero (by simp at this; omega))
      have hln : Hid (ts.length = tl.length) := by show _ = _; rw [← hpost.out, List.length_map]
      clear hsp hts
      go_wp2
      exact bodyPost_ret (by simp [results, Tryz.results41, go_sem]; rfl) rfl ⟨_, rfl, ⟨tl, by rw [hln.out]; exact hown, hpost.out⟩, by (repeat (first | exact Below.refl _ _ | with_reducible assumption | refine bel_ext ?_ _ _ | refine bel_alloc ?_ _ | refine bel_drew ?_ | refine bel_drewN ?_ _ | refine bel_set ?_ (by simp; try omega) _))⟩

end Go.Proofs.YtckalplhaggaoaaGreatDoor

namespace Go.Proofs.YtckalplhaggaoaaGreatDoor
open Go.RowKit

/-- The parser p at token q of ts. -/
structure PS (w : World) (p g cap : Nat) (fin : Int) (sheet : ByteArray) (bad : Int) (ts : List (Int × Int × Str)) (q : Nat) : Prop where
  blk : w.heap[p]? = some (.cells #[.slice (some ⟨g, 0, none⟩) ts.length cap, .int .i64 q, .int .i64 fin, .string sheet, .int .i64 bad] 73 (0, 0))
  row : ∃ cur, w.heap[g]? = some (.cells cur 82 (0, 0)) ∧ cur.toList.take (ts.length * 3) = tokCells ts
  few : ts.length ≤ 200
  room : ts.length ≤ cap
  ne : g ≠ p

variable {w w' : World} {p g cap : Nat} {fin bad : Int} {sheet : ByteArray} {ts : List (Int × Int × Str)} {q : Nat}

theorem lt_of_some {w : World} {b : Nat} {o : Obj} (h : w.heap[b]? = some o) : b < w.heap.size := by
  by_cases hlt : b < w.heap.size
  · exact hlt
  · rw [Array.getElem?_eq_none (by omega)] at h; cases h
theorem PS.plt (h : PS w p g cap fin sheet bad ts q) : p < w.heap.size := lt_of_some h.blk
theorem PS.glt (h : PS w p g cap fin sheet bad ts q) : g < w.heap.size := by obtain ⟨cur, h1, _⟩ := h.row; exact lt_of_some h1
theorem PS.c0 (h : PS w p g cap fin sheet bad ts q) : w.cell? ⟨p, 0, none⟩ = some (.slice (some ⟨g, 0, none⟩) ts.length cap) := by rw [Lib.cell_of_heap h.blk]; rfl
theorem PS.c1 (h : PS w p g cap fin sheet bad ts q) : w.cell? ⟨p, 1, none⟩ = some (.int .i64 q) := by rw [Lib.cell_of_heap h.blk]; rfl
theorem PS.c2 (h : PS w p g cap fin sheet bad ts q) : w.cell? ⟨p, 2, none⟩ = some (.int .i64 fin) := by rw [Lib.cell_of_heap h.blk]; rfl
theorem PS.c3 (h : PS w p g cap fin sheet bad ts q) : w.cell? ⟨p, 3, none⟩ = some (.string sheet) := by rw [Lib.cell_of_heap h.blk]; rfl
theorem PS.c4 (h : PS w p g cap fin sheet bad ts q) : w.cell? ⟨p, 4, none⟩ = some (.int .i64 bad) := by rw [Lib.cell_of_heap h.blk]; rfl
theorem PS.fz (h : PS w p g cap fin sheet bad ts q) (k : Nat) : w.frozen? ⟨p, k, none⟩ = false := Lib.frozen_of_heap h.blk k
theorem tokCells_get : ∀ (ts : List (Int × Int × Str)) (i : Nat) (k a : Int) (t : Str), ts[i]? = some (k, a, t) → (tokCells ts)[i * 3]? = some (.int .i64 k) ∧ (tokCells ts)[i * 3 + 1]? = some (.int .i64 a) ∧ (tokCells ts)[i * 3 + 2]? = some (.string (bs t))
  | (k', a', t') :: r, 0, k, a, t, h => by simp at h; obtain ⟨rfl, rfl, rfl⟩ := h; simp [tokCells]
  | (k', a', t') :: r, i + 1, k, a, t, h => by
    have := tokCells_get r i k a t (by simpa using h)
    have e1 : (i + 1) * 3 = i * 3 + 1 + 1 + 1 := by omega
    rw [e1]
    simpa [tokCells] using this
theorem PS.tok (h : PS w p g cap fin sheet bad ts q) {i : Nat} {k a : Int} {t : Str} (hi : ts[i]? = some (k, a, t)) : w.cell? ⟨g, i * 3, none⟩ = some (.int .i64 k) ∧ w.cell? ⟨g, i * 3 + 1, none⟩ = some (.int .i64 a) ∧ w.cell? ⟨g, i * 3 + 2, none⟩ = some (.string (bs t)) := by
  obtain ⟨cur, h1, h2⟩ := h.row
  have hl : i < ts.length := (List.getElem?_eq_some_iff.1 hi).1
  have hc : ∀ j v, j < ts.length * 3 → (tokCells ts)[j]? = some v → w.cell? ⟨g, j, none⟩ = some v := fun j v hj hv => by
    rw [Lib.cell_of_heap h1]
    rw [← h2, List.getElem?_take_of_lt hj] at hv
    simpa using hv
  obtain ⟨e1, e2, e3⟩ := tokCells_get ts i k a t hi
  exact ⟨hc _ _ (by omega) e1, hc _ _ (by omega) e2, hc _ _ (by omega) e3⟩

theorem block_setCell (w : World) (p o : Nat) (v : Value) (b : Nat) (h : b ≠ p) : (w.setCell ⟨p, o, none⟩ v).heap[b]? = w.heap[b]? := by
  unfold World.setCell
  simp only [Array.getElem?_modify]
  rw [if_neg (fun e => h e.symm)]
theorem size_setCell (w : World) (p o : Nat) (v : Value) : (w.setCell ⟨p, o, none⟩ v).heap.size = w.heap.size := by
  unfold World.setCell; simp
/-- The parser's place, moved. -/
abbrev mv (w : World) (p : Nat) (q : Nat) : World := w.setCell ⟨p, 1, none⟩ (.int .i64 q)
theorem PS.mv (h : PS w p g cap fin sheet bad ts q) (q' : Nat) : PS (mv w p q') p g cap fin sheet bad ts q' := by
  refine ⟨?_, ?_, h.few, h.room, h.ne⟩
  · have := h.blk
    have hlt := h.plt
    have h' : w.heap[p] = .cells #[.slice (some ⟨g, 0, none⟩) ts.length cap, .int .i64 q, .int .i64 fin, .string sheet, .int .i64 bad] 73 (0, 0) := by simpa [Array.getElem?_eq_getElem hlt] using this
    show (w.heap.modify p _)[p]? = _
    rw [Array.getElem?_eq_getElem (by simpa using hlt), Array.getElem_modify_self, h']
    rfl
  · obtain ⟨cur, h1, h2⟩ := h.row
    exact ⟨cur, by rw [block_setCell _ _ _ _ _ h.ne]; exact h1, h2⟩
theorem PS.bel (h : PS w p g cap fin sheet bad ts q) (hb : Bel w w') : PS w' p g cap fin sheet bad ts q := by
  refine ⟨by rw [hb.block p h.plt]; exact h.blk, ?_, h.few, h.room, h.ne⟩
  obtain ⟨cur, h1, h2⟩ := h.row
  exact ⟨cur, by rw [hb.block g h.glt]; exact h1, h2⟩
theorem PS.to (h : PS w p g cap fin sheet bad ts q) {q' : Nat} (hb : Bel (Go.Proofs.YtckalplhaggaoaaGreatDoor.mv w p q') w') : PS w' p g cap fin sheet bad ts q' := (h.mv q').bel hb

def tkKind (ts : List (Int × Int × Str)) (i : Nat) : Int := match ts[i]? with | some (k, _, _) => k | none => 0
def tkText (ts : List (Int × Int × Str)) (i : Nat) : Str := match ts[i]? with | some (_, _, t) => t | none => []

set_option maxHeartbeats 800000 in
theorem parse_kind (h : PS w p g cap fin sheet bad ts q) (d : Nat) (hd : d ≤ 10) (hq : q ≤ 1000) :
    Calls Tryz.prog 61 #[.pointer (some ⟨p, 0, none⟩), .int .i64 (d : Int)] w fun e w' => e = .returned (.int .i64 (tkKind ts (q + d))) ∧ Bel w w' := by
  have c0 := h.c0
  have c1 := h.c1
  have hp := h.plt
  have hgl := h.glt
  have hrm := h.room
  have hfw := h.few
  by_cases hlt : q + d < ts.length
  · obtain ⟨k, a, t, ht⟩ : ∃ k a t, ts[q + d]? = some (k, a, t) := ⟨_, _, _, List.getElem?_eq_getElem hlt⟩
    obtain ⟨t0, t1, t2⟩ := h.tok ht
    have hv : Hid (tkKind ts (q + d) = k) := by show _ = _; unfold tkKind; rw [ht]
    have hw : IntKind.i64.wrap ((q : Int) + d) = ((q + d : Nat) : Int) := by rw [IntKind.wrap_i64]; omega
    have hl2 : decide ((ts.length : Int) ≤ ((q + d : Nat) : Int)) = false := decide_eq_false (by omega)
    have hl3 : ((q + d : Nat) : Int) < ts.length := by omega
    clear h ht
    generalize q + d = e at *
    go_enter Tryz.func61, Tryz.ntmps61
    go_wp2
    go_quiet (fail)
    go_wp2
    go_quiet (fail)
    go_wp2
    go_ret
    exact ⟨ret_int hv.out.symm, by (repeat (first | exact Below.refl _ _ | with_reducible assumption | refine bel_ext ?_ _ _ | refine bel_alloc ?_ _ | refine bel_drew ?_ | refine bel_drewN ?_ _ | refine bel_set ?_ (by simp; try omega) _))⟩
  · have hv : Hid (tkKind ts (q + d) = 0) := by show _ = _; unfold tkKind; rw [List.getElem?_eq_none (by omega)]
    have hw : IntKind.i64.wrap ((q : Int) + d) = ((q + d : Nat) : Int) := by rw [IntKind.wrap_i64]; omega
    have hl2 : decide ((ts.length : Int) ≤ ((q + d : Nat) : Int)) = true := decide_eq_true (by omega)
    have hl4 : ts.length ≤ q + d := by omega
    clear h hlt
    generalize q + d = e at *
    go_enter Tryz.func61, Tryz.ntmps61
    go_wp2
    go_quiet (fail)
    go_wp2
    go_ret
    exact ⟨ret_int hv.out.symm, by (repeat (first | exact Below.refl _ _ | with_reducible assumption | refine bel_ext ?_ _ _ | refine bel_alloc ?_ _ | refine bel_drew ?_ | refine bel_drewN ?_ _ | refine bel_set ?_ (by simp; try omega) _))⟩

set_option maxHeartbeats 1600000 in
theorem parse_sign (h : PS w p g cap fin sheet bad ts q) (d : Nat) (hd : d ≤ 10) (hq : q ≤ 1000) (x : ByteArray) :
    Calls Tryz.prog 88 #[.pointer (some ⟨p, 0, none⟩), .int .i64 (d : Int), .string x] w fun e w' => e = .returned (.bool (tkKind ts (q + d) == 5 && (tkText ts (q + d) == x.toList))) ∧ Bel w w' := by
  have HK := Lib.hid (fun w1 (b : Bel w w1) => parse_kind (h.bel b) d hd hq)
  have c0 := h.c0
  have c1 := h.c1
  have hp := h.plt
  have hgl := h.glt
  have hrm := h.room
  have hfw := h.few
  have hHB : ∀ p : BW w, Bel w p.w' := fun p => p.h
  by_cases h5 : tkKind ts (q + d) = 5
  · have hlt : q + d < ts.length := by
      by_cases hlt : q + d < ts.length
      · exact hlt
      · unfold tkKind at h5; rw [List.getElem?_eq_none (by omega)] at h5; simp at h5
    obtain ⟨k, a, t, ht⟩ : ∃ k a t, ts[q + d]? = some (k, a, t) := ⟨_, _, _, List.getElem?_eq_getElem hlt⟩
    obtain ⟨t0, t1, t2⟩ := h.tok ht
    have hv : Hid ((tkKind ts (q + d) == 5 && (tkText ts (q + d) == x.toList)) = ((bs t).toList == x.toList)) := by
      show _ = _
      rw [h5]
      have : tkText ts (q + d) = (bs t).toList := by unfold tkText; rw [ht, Lib.toList_data]; rfl
      rw [this]; rfl
    rw [h5] at HK
    have hw : IntKind.i64.wrap ((q : Int) + d) = ((q + d : Nat) : Int) := by rw [IntKind.wrap_i64]; omega
    have hl3 : ((q + d : Nat) : Int) < ts.length := by omega
    clear h ht h5
    generalize q + d = e at *
    go_enter Tryz.func88, Tryz.ntmps88
    go_wp2
    refine wp_region_bw (by kernel_rfl) (by kernel_rfl) ?_
    repeat (go_big_quiet_step ((go_at_call 61; exact Calls.bw (HK.out _ (hHB _)))))
    refine wpQuiet_nil ?_
    intro _ hw'
    obtain ⟨pq, hw''⟩ := hw'
    subst hw''
    obtain ⟨d', o', hpq⟩ := pq.h.ext
    rw [hpq]
    go_wp2
    go_ret
    exact ⟨ret_bool hv.out.symm, by (repeat (first | exact Below.refl _ _ | with_reducible assumption | refine bel_ext ?_ _ _ | refine bel_alloc ?_ _ | refine bel_drew ?_ | refine bel_drewN ?_ _ | refine bel_set ?_ (by simp; try omega) _))⟩
  · have hk : (tkKind ts (q + d) == 5) = false := by simpa using h5
    have hv : Hid ((tkKind ts (q + d) == 5 && (tkText ts (q + d) == x.toList)) = false) := by show _ = _; rw [hk]; rfl
    clear h h5
    generalize tkKind ts (q + d) = K at *
    go_enter Tryz.func88, Tryz.ntmps88
    go_wp2
    refine wp_region_bw (by kernel_rfl) (by kernel_rfl) ?_
    repeat (go_big_quiet_step ((go_at_call 61; exact Calls.bw (HK.out _ (hHB _)))))
    refine wpQuiet_nil ?_
    intro _ hw'
    obtain ⟨pq, hw''⟩ := hw'
    subst hw''
    obtain ⟨d', o', hpq⟩ := pq.h.ext
    rw [hpq]
    go_wp2
    go_ret
    exact ⟨ret_bool hv.out.symm, by (repeat (first | exact Below.refl _ _ | with_reducible assumption | refine bel_ext ?_ _ _ | refine bel_alloc ?_ _ | refine bel_drew ?_ | refine bel_drewN ?_ _ | refine bel_set ?_ (by simp; try omega) _))⟩

set_option maxHeartbeats 1600000 in
theorem parse_take (h : PS w p g cap fin sheet bad ts q) (hq : q < ts.length) :
    Calls Tryz.prog 63 #[.pointer (some ⟨p, 0, none⟩)] w fun e w' => e = .returned (.string (bs (tkText ts q))) ∧ Bel (mv w p (q + 1)) w' := by
  have c0 := h.c0
  have c1 := h.c1
  have f1 := h.fz 1
  have hp := h.plt
  have hgl := h.glt
  have hrm := h.room
  have hfw := h.few
  have hne := h.ne
  obtain ⟨k, a, t, ht⟩ : ∃ k a t, ts[q]? = some (k, a, t) := ⟨_, _, _, List.getElem?_eq_getElem hq⟩
  have hv : Hid (tkText ts q = t) := by show _ = _; unfold tkText; rw [ht]
  have hm := h.mv (q + 1)
  obtain ⟨t0, t1, t2⟩ := hm.tok ht
  have d0 := hm.c0
  have d1 := hm.c1
  have e1 : ((q + 1 : Nat) : Int) = (q : Int) + 1 := by omega
  have hql : (q : Int) < ts.length := by omega
  unfold mv at *
  rw [e1] at d1 t0 t1 t2 d0 ⊢
  rw [hv.out]
  clear h ht hm e1 hv
  go_enter Tryz.func63, Tryz.ntmps63
  go_wp2
  go_quiet (fail)
  go_wp2
  go_ret
  exact ⟨rfl, by (repeat (first | exact Below.refl _ _ | with_reducible assumption | refine bel_ext ?_ _ _ | refine bel_alloc ?_ _ | refine bel_drew ?_ | refine bel_drewN ?_ _ | refine bel_set ?_ (by simp; try omega) _))⟩

end Go.Proofs.YtckalplhaggaoaaGreatDoor
