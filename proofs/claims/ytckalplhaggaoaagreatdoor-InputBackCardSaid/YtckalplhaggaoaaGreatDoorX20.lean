/- Towards InputBack: what is shown as input is read back as it was, for every entry and every text; no condition. Part 20 of 28. -/
import Derived.Test.YtckalplhaggaoaaGreatDoorX19
set_option linter.unusedVariables false
set_option linter.unusedSimpArgs false
namespace Go.Proofs.YtckalplhaggaoaaGreatDoor
open Go.RowKit

theorem splits_len {l : Str} {ts : List (Int × Str)} (h : Splits l ts) : ts.length ≤ l.length := by
  induction h with
  | nil => simp
  | cons h _ ih =>
    obtain ⟨d, h1, h2, _⟩ := h.suffix
    have := List.length_pos_iff.2 h2
    rw [h1]; simp; omega

/-- The parser as it is made. -/
theorem PS.made {W : World} {B : Nat} {v : Value} {tl : List (Int × Int × Str)} {n : Nat} (ho : W.ownsRow B 82 3 v n (tokCells tl)) (hn : n = tl.length) (h0 : 0 < tl.length) (h2 : tl.length ≤ 200) :
    ∃ g cap, v = .slice (some ⟨g, 0, none⟩) tl.length cap ∧ g < W.heap.size ∧ ∀ (fin : Int) (sheet : ByteArray),
      PS (W.alloc (.cells #[.slice (some ⟨g, 0, none⟩) tl.length cap, .int .i64 0, .int .i64 fin, .string sheet, .int .i64 0] 73)) W.heap.size g cap fin sheet 0 tl 0 := by
  subst hn
  rcases ho.2 with ⟨_, h0'⟩ | ⟨g, cap, cur, hv, hb, hg, hc, _, _, ht⟩
  · omega
  · have hlt := lt_of_some hg
    refine ⟨g, cap, hv, hlt, fun fin sheet => ⟨heap_alloc_at _ _ _ rfl, ⟨cur, ?_, ht⟩, h2, hc, by omega⟩⟩
    rw [heap_alloc_old _ _ hlt]; exact hg

set_option maxHeartbeats 8000000 in
set_option maxRecDepth 100000 in
theorem parse_Parse (n : GNode) (s sheet : ByteArray) (hs : s.data.toList = showN n) (hsz1 : s.size ≤ 200) (hR : rightR n = true) (hi : intsN n) (hd : depthN n ≤ 20) (hnm : nameB sheet = true) (hnz : sheet.size ≤ 1000) (w : World) (hG : Gl w) :
    Calls Tryz.prog 23 #[.string s, .string sheet] w fun e w' => ∃ v, e = .returned (.tuple #[nodeV n v, .int .i64 (-1), .int .i64 0]) ∧ NodeR w.heap.size n v w' ∧ Bel w w' := by
  have hsp := splits_show hR
  have hlen := splits_len hsp
  rw [← hs] at hsp
  have hlen2 : (toksN n).length ≤ 200 := by
    have := len_data s
    rw [hs] at this; omega
  have hpos : 0 < (toksN n).length := by
    obtain ⟨k, t, r, hh, _⟩ := toks_head hR
    rw [hh]; simp
  have HS := Lib.hid (fun w1 => token_Split s hsz1 (toksN n) hsp w1)
  have HN := Lib.hid (fun w1 => addr_Name sheet (by omega) w1)
  rw [hnm] at HN
  have hR' := Lib.hid hR
  have hi' := Lib.hid hi
  have hG8 := hG.size
  have hG' := Lib.hid hG
  have hd' := Lib.hid hd
  have hss : (s.size : Int) ≤ 200 := by omega
  clear hsp hlen hs hnm hR hi hG hd
  go_enter Tryz.func23, Tryz.ntmps23
  go_wp2_with (first
    | (go_at_call 41; refine (HS.out _).mono ?_; rintro e' w' ⟨v, rfl, ⟨tl, ho, htl⟩, hb'⟩; have hn := congrArg List.length htl; rw [List.length_map] at hn; obtain ⟨g, cap, rfl, hgl, hps⟩ := PS.made ho hn.symm (by omega) (by omega); replace hn := Lib.hid hn; replace htl := Lib.hid htl; clear ho; obtain ⟨d1, o1, rfl⟩ := hb'.ext; clear hb')
    | (go_at_call 42; refine (HN.out _).mono ?_; rintro e' w1 ⟨rfl, hw1⟩; rw [hw1]; clear hw1)
    | (go_at_call 43; skip; fail))
  have hp := hps s.size sheet
  simp only [size_ext, hsz] at hp
  clear hps
  generalize hX : World.alloc (ext _ _ _) _ = X at hp ⊢
  have hbX : Bel w X := by rw [← hX]; (repeat (first | exact Below.refl _ _ | with_reducible assumption | refine bel_ext ?_ _ _ | refine bel_alloc ?_ _ | refine bel_drew ?_ | refine bel_drewN ?_ _ | refine bel_set ?_ (by simp; try omega) _))
  have hGX := hG'.out.bel hbX
  have hXs : X.heap.size = w.heap.size + 1 + o1.size + 1 := by rw [← hX]; simp only [hsz, size_ext]
  have hq1 : (toksN n).length ≤ 1000 := by omega
  have hdr : (tl.map kt).drop (toksN n).length = [] := by rw [htl.out]; exact List.drop_length
  have HO := pairs_zero n (toksN n).length hq1 hdr (.inl rfl) X hp (fun w1 b => by
    have := reads_node (ts := tl) (g := g) (cap := cap) (fin := s.size) (sheet := sheet) (bad := 0) (p := w.heap.size + 1 + o1.size) (by omega) (nsz n) n (Nat.le_refl _) hR'.out hi'.out w1 0 [] (hp.bel b) (hGX.bel b) (by rw [htl.out]; simp) (fun k t r e => by cases e)
    rwa [Nat.zero_add] at this)
  refine HO.mono ?_
  rintro e' w' ⟨v, rfl, ⟨A, c, rfl, hr⟩, hb'⟩
  have hps2 := hp.to hb'
  have hZ : w'.heap[w.heap.size]? = some (.cells (nodeCells GNode.zero (.slice none 0 0)).toArray 28 (0, 0)) := by
    rw [hb'.block w.heap.size (by rw [mv_size]; omega), mv_block _ _ _ _ (by omega), ← hX, heap_alloc_old _ _ (by simp only [hsz, size_ext]; omega), heap_ext _ _ _ _ (by simp only [hsz]; omega)]
    exact heap_alloc_at _ _ _ rfl
  have hbw : Bel w w' := by
    have h1 : Bel w (mv X (w.heap.size + 1 + o1.size) (toksN n).length) := bel_set hbX (by omega) _
    exact h1.then_ hb'
  have hws : X.heap.size ≤ w'.heap.size := by have := hb'.size; rwa [mv_size] at this
  have y1 := hps2.c1
  have hpl := hps2.plt
  have hbl : w.heap.size < w'.heap.size := by omega
  have HD := Lib.hid (fun w1 (b : Bel w' w1) => tree_Depth (nsz n) n A n.kids.length c _ w1 (Nat.le_refl _) (by have := hd'.out; omega) (hr.bel b))
  have hdd : depthN n ≤ 20 := hd'.out
  have hq2 : ((toksN n).length : Int) = tl.length := by have := hn.out; omega
  rw [hq2] at y1
  have z0 := node_cell hZ 0
  have z1 := node_cell hZ 1
  have z2 := node_cell hZ 2
  have z3 := node_cell hZ 3
  have z4 := node_cell hZ 4
  have z5 := node_cell hZ 5
  have z6 := node_cell hZ 6
  have z7 := node_cell hZ 7
  have z8 := node_cell hZ 8
  have z9 := node_cell hZ 9
  have z10 := node_cell hZ 10
  have z11 := node_cell hZ 11
  have z12 := node_cell hZ 12
  have f0 := node_free hZ 0
  have f1 := node_free hZ 1
  have f2 := node_free hZ 2
  have f3 := node_free hZ 3
  have f4 := node_free hZ 4
  have f5 := node_free hZ 5
  have f6 := node_free hZ 6
  have f7 := node_free hZ 7
  have f8 := node_free hZ 8
  have f9 := node_free hZ 9
  have f10 := node_free hZ 10
  have f11 := node_free hZ 11
  have f12 := node_free hZ 12
  simp only [nodeCells, GNode.zero, GVal.zero, GCell.zero, List.getElem?_cons_zero, List.getElem?_cons_succ] at z0 z1 z2 z3 z4 z5 z6 z7 z8 z9 z10 z11 z12
  clear hps2 hX hp hGX HO hdr hb' hq1 hq2
  generalize hpp : w.heap.size + 1 + o1.size = p at *
  unfold nodeV at HD ⊢
  go_wp2_with (first
    | (go_at_call 45; refine (HD.out _ (by (repeat (first | exact Below.refl _ _ | with_reducible assumption | refine bel_ext ?_ _ _ | refine bel_alloc ?_ _ | refine bel_drew ?_ | refine bel_drewN ?_ _ | refine bel_set ?_ (by simp; try omega) _)))).mono ?_; rintro e' w' ⟨rfl, hb'⟩; obtain ⟨d3, o3, rfl⟩ := hb'.ext; clear hb'))
  generalize hWf : ext _ _ _ = Wf
  have hbf : Bel w Wf := by
    rw [← hWf]
    exact bel_ext (bel_alloc (bel_set (bel_set (bel_set (bel_set (bel_set (bel_set (bel_set (bel_set (bel_set (bel_set (bel_set (bel_set (bel_set hbw (Nat.le_refl _) _) (Nat.le_refl _) _) (Nat.le_refl _) _) (Nat.le_refl _) _) (Nat.le_refl _) _) (Nat.le_refl _) _) (Nat.le_refl _) _) (Nat.le_refl _) _) (Nat.le_refl _) _) (Nat.le_refl _) _) (Nat.le_refl _) _) (Nat.le_refl _) _) (Nat.le_refl _) _) _) _ _
  have hk : ∀ b, b ≠ w.heap.size → b < w'.heap.size → Wf.heap[b]? = w'.heap[b]? := fun b hne hlt => by
    rw [← hWf, heap_ext _ _ _ _ (by simp only [hsz, size_setCell]; omega), heap_alloc_old _ _ (by simp only [size_setCell]; exact hlt)]
    simp only [block_setCell _ _ _ _ _ hne]
  have hsf : w'.heap.size ≤ Wf.heap.size := by rw [← hWf]; simp only [size_ext, hsz, size_setCell]; omega
  have hnf : NodeR w.heap.size n (.slice A n.kids.length c) Wf :=
    ⟨A, c, rfl, RdN.mono (fun b hb => by have : X.heap.size ≤ b := hb; omega) _ _ (RdN.keep (fun b hb hlt => hk b (by have : X.heap.size ≤ b := hb; omega) hlt) hsf _ _ hr)⟩
  have hRf : Wf.heap[w.heap.size]? = some (.cells (nodeCells n (.slice A n.kids.length c)).toArray 28 (0, 0)) := by
    rw [← hWf, heap_ext _ _ _ _ (by simp only [hsz, size_setCell]; omega), heap_alloc_old _ _ (by simp only [size_setCell]; exact hbl)]
    exact set13 hZ _ _ _ _ _ _ _ _ _ _ _ _ _
  have r0 := node_cell hRf 0
  have r1 := node_cell hRf 1
  have r2 := node_cell hRf 2
  have r3 := node_cell hRf 3
  have r4 := node_cell hRf 4
  have r5 := node_cell hRf 5
  have r6 := node_cell hRf 6
  have r7 := node_cell hRf 7
  have r8 := node_cell hRf 8
  have r9 := node_cell hRf 9
  have r10 := node_cell hRf 10
  have r11 := node_cell hRf 11
  have r12 := node_cell hRf 12
  simp only [nodeCells, List.getElem?_cons_zero, List.getElem?_cons_succ] at r0 r1 r2 r3 r4 r5 r6 r7 r8 r9 r10 r11 r12
  clear hWf hRf hk hr hZ
  exact bodyPost_ret (v := .tuple #[nodeV n (.slice A n.kids.length c), .int .i64 (-1), .int .i64 0]) (by unfold nodeV; simp [results, Tryz.results23, go_sem, r0, r1, r2, r3, r4, r5, r6, r7, r8, r9, r10, r11, r12]) rfl ⟨_, rfl, hnf, hbf⟩

end Go.Proofs.YtckalplhaggaoaaGreatDoor

namespace Go.Proofs.YtckalplhaggaoaaGreatDoor
open Go.RowKit

/-! ### Plain -/
def trimQ (l : Str) : Str := Lib.trimPrefix l [39]
def restI (l : Str) : GVal := if l == [84, 82, 85, 69] then ⟨3, 1, ⟨#[]⟩⟩ else if l == [70, 65, 76, 83, 69] then ⟨3, 0, ⟨#[]⟩⟩ else ⟨2, 0, bs (trimQ l)⟩
/-- What a text of 200 bytes at most is that is no formula. -/
def constI (l : Str) : GVal := if l.isEmpty then GVal.zero else match Lib.atoiAll l with
  | .ok n => if Lib.itoa n == l then ⟨1, n, ⟨#[]⟩⟩ else restI l
  | _ => restI l
theorem trimQ_cons (c : UInt8) (l : Str) : trimQ (c :: l) = if c = 39 then l else c :: l := by
  unfold trimQ Lib.trimPrefix Lib.hasPrefix
  by_cases h : c = 39
  · subst h; simp [List.isPrefixOf]
  · have : ¬ (39 : UInt8) = c := fun e => h e.symm
    simp [List.isPrefixOf, h, this]
theorem trimQ_len (l : Str) : (trimQ l).length ≤ l.length := by
  cases l with
  | nil => simp [trimQ, Lib.trimPrefix, Lib.hasPrefix]
  | cons c l => rw [trimQ_cons]; split <;> simp
theorem atoi_no (c : UInt8) (l : Str) (h1 : c.toNat ≠ 43) (h2 : c.toNat ≠ 45) (h3 : c.toNat < 48 ∨ 57 < c.toNat) : ∀ v, Lib.atoiAll (c :: l) ≠ .ok v := by
  have h0 : ∀ u, Lib.parseMag (c :: l) ≠ .ok u := by
    intro u
    unfold Lib.parseMag
    rw [if_neg (by simp)]
    simp only [Lib.parseUint10]
    rw [if_neg (by omega)]
    nofun
  intro v
  simp only [Lib.atoiAll]
  rw [if_neg (by omega)]
  intro he
  split at he
  · cases he
  · cases he
  · rename_i u hu
    exact h0 u hu
theorem constI_no {l : Str} (hl : l.isEmpty = false) (h : ∀ v, Lib.atoiAll l ≠ .ok v) : constI l = restI l := by
  unfold constI
  rw [hl]
  cases hc : Lib.atoiAll l
  · exact absurd hc (h _)
  · rfl
  · rfl
theorem constI_text (l : Str) : constI (39 :: l) = ⟨2, 0, bs l⟩ := by
  have e : restI (39 :: l) = ⟨2, 0, bs l⟩ := by
    unfold restI
    rw [trimQ_cons]
    simp
  exact (constI_no rfl (atoi_no 39 l (by decide) (by decide) (by decide))).trans e
theorem constI_int (n : Int) (h0 : -9223372036854775808 ≤ n) (h1 : n ≤ 9223372036854775807) : constI (Lib.itoa n) = ⟨1, n, ⟨#[]⟩⟩ := by
  unfold constI
  have hne : (Lib.itoa n).isEmpty = false := by
    have := atoi_itoa n h0 h1
    cases hd : Lib.itoa n with
    | nil => rw [hd] at this; cases this
    | cons c r => rfl
  rw [hne, atoi_itoa n h0 h1]
  simp
theorem constI_true : constI [84, 82, 85, 69] = ⟨3, 1, ⟨#[]⟩⟩ := by
  exact (constI_no rfl (atoi_no 84 _ (by decide) (by decide) (by decide))).trans rfl
theorem constI_false : constI [70, 65, 76, 83, 69] = ⟨3, 0, ⟨#[]⟩⟩ := by
  exact (constI_no rfl (atoi_no 70 _ (by decide) (by decide) (by decide))).trans rfl
theorem constI_nil : constI [] = GVal.zero := rfl

/-- How a value is shown that is no formula. -/
def quotedI (v : GVal) : Bool := v.kind == 2 && (Lib.hasPrefix v.s.data.toList [61] || !(eqVal (constI v.s.data.toList) v))
def showI (v : GVal) : Str := if quotedI v then 39 :: v.s.data.toList else (showV v).data.toList
theorem prefix_cons (c d : UInt8) (l : Str) : Lib.hasPrefix (c :: l) [d] = (d == c) := by
  unfold Lib.hasPrefix; simp [List.isPrefixOf]
theorem showI_back (v : GVal) (h : rightV v = true) (h4 : v.kind ≠ 4) (h0 : -9223372036854775808 ≤ v.n) (h1 : v.n ≤ 9223372036854775807) : constI (showI v) = v ∧ Lib.hasPrefix (showI v) [61] = false := by
  obtain ⟨k, n, s⟩ := v
  have hr := h
  unfold rightV at h
  simp only at h h4 h0 h1
  by_cases k0 : k = 0
  · subst k0
    simp only [if_true, Bool.and_eq_true, beq_iff_eq] at h
    have hs := empty_of h.2
    have hn := h.1
    subst hn hs
    have e : showI ⟨0, 0, ⟨#[]⟩⟩ = [] := by unfold showI quotedI showV; rw [hr]; rfl
    rw [e]; exact ⟨rfl, rfl⟩
  rw [if_neg k0] at h
  by_cases k1 : k = 1
  · subst k1
    simp only [if_true] at h
    have hs := empty_of h
    subst hs
    have e : showI ⟨1, n, ⟨#[]⟩⟩ = Lib.itoa n := by
      unfold showI quotedI
      simp only [show ((1 : Int) == 2) = false by decide, Bool.false_and, Bool.false_eq_true, if_false]
      unfold showV; rw [hr]; simp [itoaB, bs]
    rw [e]
    refine ⟨constI_int n h0 h1, ?_⟩
    have hd := atoi_itoa n h0 h1
    by_cases hn : n < 0
    · have : Lib.itoa n = 45 :: Lib.decDigits n.natAbs := by unfold Lib.itoa; rw [if_pos hn]
      rw [this, prefix_cons]; rfl
    · obtain ⟨c, r, hc, hcd⟩ := dec_head n.toNat
      have : Lib.itoa n = Lib.decDigits n.toNat := by unfold Lib.itoa; rw [if_neg hn]
      rw [this, hc, prefix_cons, beq_eq_false_iff_ne]
      exact fun e => (digit_start hcd).1 e.symm
  rw [if_neg k1] at h
  by_cases k2 : k = 2
  · subst k2
    simp only [if_true, Bool.and_eq_true, beq_iff_eq] at h
    have hn := h.1
    subst hn
    by_cases hq : quotedI ⟨2, 0, s⟩ = true
    · have e : showI ⟨2, 0, s⟩ = 39 :: s.data.toList := by unfold showI; rw [if_pos hq]
      rw [e, constI_text, bs_back, prefix_cons]
      exact ⟨rfl, rfl⟩
    · have e : showI ⟨2, 0, s⟩ = s.data.toList := by
        unfold showI; rw [if_neg hq]
        unfold showV; rw [hr]; rfl
      rw [e]
      unfold quotedI at hq
      simp only [show ((2 : Int) == 2) = true by decide, Bool.true_and, Bool.or_eq_true, Bool.not_eq_true', not_or, Bool.not_eq_true, Bool.not_eq_false] at hq
      exact ⟨(eqVal_iff _ _).1 hq.2, hq.1⟩
  rw [if_neg k2] at h
  by_cases k3 : k = 3
  · subst k3
    simp only [if_true, Bool.and_eq_true, Bool.or_eq_true, beq_iff_eq] at h
    have hs := empty_of h.2
    subst hs
    rcases h.1 with hn | hn
    · subst hn
      have e : showI ⟨3, 0, ⟨#[]⟩⟩ = [70, 65, 76, 83, 69] := by unfold showI quotedI showV; rw [hr]; rfl
      rw [e]; exact ⟨constI_false, rfl⟩
    · subst hn
      have e : showI ⟨3, 1, ⟨#[]⟩⟩ = [84, 82, 85, 69] := by unfold showI quotedI showV; rw [hr]; rfl
      rw [e]; exact ⟨constI_true, rfl⟩
  · exfalso
    rw [if_neg k3] at h
    rw [if_neg h4] at h
    cases h

end Go.Proofs.YtckalplhaggaoaaGreatDoor
