/- Towards InputBack: what is shown as input is read back as it was, for every entry and every text; no condition. Part 5 of 28. -/
import Derived.Test.YtckalplhaggaoaaGreatDoorX04
import Derived.Test.YtckalplhaggaoaaGreatDoorX03
import Derived.Lib.ItoaLen
import Derived.Lib.Join
import Derived.Lib.Replace
set_option linter.unusedVariables false
set_option linter.unusedSimpArgs false
namespace Go.Proofs.YtckalplhaggaoaaGreatDoor
open Go.RowKit

instance {w : World} : Inhabited (BW w) := ⟨⟨w, Below.refl _ _⟩⟩
@[go_sem] theorem cell_bw {w : World} (p : BW w) (b o : Nat) (h : b < w.heap.size) : p.w'.cell? ⟨b, o, none⟩ = w.cell? ⟨b, o, none⟩ := p.cell b o h

set_option maxHeartbeats 4000000 in
set_option maxRecDepth 100000 in
theorem ref_SameNode (N : Nat) : ∀ (n : GNode) (A : Option Addr) (k c : Nat) (B : Option Addr) (k' c2 : Nat) (Z Z' : Nat → Prop) (w : World), nsz n ≤ N → RdN Z w n (.slice A k c) → RdN Z' w n (.slice B k' c2) →
    Calls Tryz.prog 12 #[nodeV n (.slice A k c), nodeV n (.slice B k' c2)] w fun e w' => e = .returned (.bool true) ∧ Bel w w' := by
  induction N with
  | zero => intro n A k c B k' c2 Z Z' w hN; exfalso; have := nsz_pos n; omega
  | succ N ih =>
    intro n A k c B k' c2 Z Z' w hN hr hr2
    have HI := Lib.hid ih
    clear ih
    obtain ⟨hk, hk2, -, g, o, hpos, hkid⟩ := hr.kid
    obtain ⟨hk', hk2', -, g2, o2, hpos2, hkid2⟩ := hr2.kid
    subst hk
    subst hk'
    have Hkid := Lib.hid hkid
    have Hkid2 := Lib.hid hkid2
    have HN := Lib.hid hN
    have Hpos := Lib.hid hpos
    have Hpos2 := Lib.hid hpos2
    clear hkid hpos hr hN hkid2 hpos2 hr2
    have ev : eqVal ⟨n.val.kind, n.val.n, n.val.s⟩ ⟨n.val.kind, n.val.n, n.val.s⟩ = true := (eqVal_iff _ _).2 rfl
    have ec : eqCell ⟨n.cell.sheet, n.cell.col, n.cell.row⟩ ⟨n.cell.sheet, n.cell.col, n.cell.row⟩ = true := (eqCell_iff _ _).2 rfl
    have et : eqCell ⟨n.to.sheet, n.to.col, n.to.row⟩ ⟨n.to.sheet, n.to.col, n.to.row⟩ = true := (eqCell_iff _ _).2 rfl
    unfold nodeV
    go_enter Tryz.func12, Tryz.ntmps12
    go_wp2
    clear ev ec et
    generalize hW : World.alloc _ _ = W
    have hb0 : Bel w W := by rw [← hW]; (repeat (first | exact Below.refl _ _ | with_reducible assumption | refine bel_ext ?_ _ _ | refine bel_alloc ?_ _ | refine bel_drew ?_ | refine bel_drewN ?_ _ | refine bel_set ?_ (by simp; try omega) _))
    have hsl : W.cell? ⟨w.heap.size, 12, none⟩ = some (.slice A n.kids.length c) := by
      rw [← hW, World.cell?_alloc_past _ _ _ (by show _ < (Array.push _ _).size; rw [Array.size_push]; omega)]; exact (World.cell?_alloc_at _ _ _ _ rfl).trans rfl
    have hsl2 : W.cell? ⟨w.heap.size + 1, 12, none⟩ = some (.slice B n.kids.length c2) := by
      rw [← hW]; exact (World.cell?_alloc_at _ _ _ _ (by show _ = (Array.push _ _).size; rw [Array.size_push])).trans rfl
    have hsz : W.heap.size = w.heap.size + 2 := by rw [← hW]; show (Array.push (Array.push _ _) _).size = _; rw [Array.size_push, Array.size_push]
    clear hW
    go_loopw [5] (fun t wr => ∃ i : Nat, i ≤ n.kids.length ∧ t = .int .i64 i ∧ Bel W wr) (fun t _ => n.kids.length - (intOf t).toNat)
    case atStart => exact ⟨0, Nat.zero_le _, rfl, Below.refl _ _⟩
    case round =>
      obtain ⟨i, hi, rfl, hb1⟩ := hrel
      have hb := hb0.then_ hb1
      have hsl1 := (hb1.cells w.heap.size 12 (by omega)).trans hsl
      have hsl3 := (hb1.cells (w.heap.size + 1) 12 (by omega)).trans hsl2
      have hszr : w.heap.size < wr.heap.size := by have := hb1.size; omega
      have hszr2 : w.heap.size + 1 < wr.heap.size := by have := hb1.size; omega
      by_cases hlt : i < n.kids.length
      · obtain ⟨rfl, hZ, hg⟩ := Hpos.out (by omega)
        obtain ⟨rfl, hZ2, hg2⟩ := Hpos2.out (by omega)
        obtain ⟨A', c', hs1, hs2⟩ := Hkid.out i hlt
        obtain ⟨B', c2', hs1', hs2'⟩ := Hkid2.out i hlt
        have HC := Lib.hid (fun w1 (b1 : Bel w w1) => HI.out n.kids[i] A' n.kids[i].kids.length c' B' n.kids[i].kids.length c2' Z Z' w1 (by have := nsz_kid n i hlt; have := HN.out; omega) (hs1.bel b1) (hs1'.bel b1))
        have hc := hs2.bel hb hg
        have hc2 := hs2'.bel hb hg2
        clear hs1 hs2 hs1' hs2'
        have hgr : g < wr.heap.size := by omega
        have hgr2 : g2 < wr.heap.size := by omega
        unfold nodeAt at hc hc2
        obtain ⟨q0, q1, q2, q3, q4, q5, q6, q7, q8, q9, q10, q11, q12⟩ := hc
        obtain ⟨r0, r1, r2, r3, r4, r5, r6, r7, r8, r9, r10, r11, r12⟩ := hc2
        generalize n.kids[i] = kd at *
        have hlen : (i : Int) < n.kids.length := by omega
        have hHB : ∀ p : BW wr, Bel w p.w' := fun p => hb.then_ p.h
        go_wp2
        refine wp_region_bw (by kernel_rfl) (by kernel_rfl) ?_
        go_big_quiet_step (refine Calls.bw (p := _) (HC.out _ (hHB _)))
        repeat (go_big_quiet_step (refine Calls.bw (p := _) (HC.out _ (hHB _))))
        refine wpQuiet_nil ?_
        intro _ hw'
        obtain ⟨pq, hw''⟩ := hw'
        subst hw''
        obtain ⟨d', o', hpq⟩ := pq.h.ext
        rw [hpq]
        go_wp2
        go_roundw
        case rel => exact ⟨i + 1, by omega, by go_num, by (repeat (first | exact Below.refl _ _ | with_reducible assumption | refine bel_ext ?_ _ _ | refine bel_alloc ?_ _ | refine bel_drew ?_ | refine bel_drewN ?_ _ | refine bel_set ?_ (by simp; try omega) _))⟩
        case measure => simp [intOf]; omega
      · have hlen : ¬ (i : Int) < n.kids.length := by omega
        go_wp2
        go_ret
        exact ⟨rfl, by (repeat (first | exact Below.refl _ _ | with_reducible assumption | refine bel_ext ?_ _ _ | refine bel_alloc ?_ _ | refine bel_drew ?_ | refine bel_drewN ?_ _ | refine bel_set ?_ (by simp; try omega) _))⟩

end Go.Proofs.YtckalplhaggaoaaGreatDoor

namespace Go.Proofs.YtckalplhaggaoaaGreatDoor
open Go.RowKit

/-- A column and a row as text. -/
def letter (n : Int) : UInt8 := UInt8.ofNat (65 + n).toNat
def placeS (col row : Int) : Str := (if 26 < col then [letter ((col - 1) / 26 - 1)] else []) ++ (letter ((col - 1) % 26) :: Lib.itoa row)
def placeT (col row : Int) : ByteArray := bs (placeS col row)

theorem enc1 (n : Int) (h0 : 0 ≤ n) (h1 : n < 26) : Utf8.encode (65 + n) = ⟨#[letter n]⟩ := by
  obtain ⟨k, rfl⟩ : ∃ k : Nat, n = k := ⟨n.toNat, by omega⟩
  have : k < 26 := by omega
  unfold letter
  have h : ∀ k, k < 26 → Utf8.encode (65 + (k : Nat)) = ⟨#[UInt8.ofNat (65 + ((k : Nat) : Int)).toNat]⟩ := by decide +kernel
  exact h k this
theorem enc_1 (col : Int) (h1 : 1 ≤ col) (h2 : col ≤ 702) : Utf8.encode (65 + (col - 1) % 26) = ⟨#[letter ((col - 1) % 26)]⟩ := enc1 _ (by omega) (by omega)
theorem enc_2 (col : Int) (h1 : 26 < col) (h2 : col ≤ 702) : Utf8.encode (65 + (col - 1) / 26 - 1) = ⟨#[letter ((col - 1) / 26 - 1)]⟩ := by
  have := enc1 ((col - 1) / 26 - 1) (by omega) (by omega)
  rw [← this]; congr 1; omega
theorem place_2 (col row : Int) (h1 : 26 < col) (h2 : col ≤ 702) : Utf8.encode (65 + (col - 1) / 26 - 1) ++ Utf8.encode (65 + (col - 1) % 26) ++ itoaB row = placeT col row := by
  rw [enc_2 col h1 h2, enc_1 col (by omega) h2]
  unfold placeT placeS bs itoaB bs
  rw [if_pos h1]
  apply toList_inj
  simp [Lib.toList_data]
theorem place_1 (col row : Int) (h0 : 1 ≤ col) (h1 : ¬ 26 < col) (h2 : col ≤ 702) : Utf8.encode (65 + (col - 1) % 26) ++ itoaB row = placeT col row := by
  rw [enc_1 col (by omega) h2]
  unfold placeT placeS bs itoaB bs
  rw [if_neg h1]
  apply toList_inj
  simp [Lib.toList_data]

theorem itoaB_size (n : Int) (h0 : -9223372036854775808 ≤ n) (h1 : n ≤ 9223372036854775807) : (itoaB n).size ≤ 21 := by
  have := Lib.itoa_length_le n h0 h1
  show (Lib.itoa n).toArray.size ≤ 21
  simpa using this
theorem placeT_size (col row : Int) (h3 : 1 ≤ row) (h4 : row ≤ 999) : (placeT col row).size ≤ 23 := by
  have := Lib.itoa_length_le row (by omega) (by omega)
  show (placeS col row).toArray.size ≤ 23
  unfold placeS
  split <;> simp <;> omega

set_option maxHeartbeats 400000 in
set_option maxRecDepth 100000 in
theorem addr_Place (s : ByteArray) (col row : Int) (h1 : 1 ≤ col) (h2 : col ≤ 702) (h3 : 1 ≤ row) (h4 : row ≤ 999) (w : World) (hg : Gl w) :
    Calls Tryz.prog 50 #[.agg #[.string s, .int .i64 col, .int .i64 row]] w fun e w' => e = .returned (.string (placeT col row)) ∧ Bel w w' := by
  have HI := Lib.hid (fun w1 (b : Bel w w1) => strconv_Itoa row w1 (hg.bel b) (by omega) (by omega))
  clear hg
  by_cases h : 26 < col
  · have hv := Lib.hid (place_2 col row h h2)
    have z1 : (Utf8.encode (65 + (col - 1) / 26 - 1)).size ≤ 1 := by rw [enc_2 col h h2]; exact Nat.le_refl _
    have z2 : (Utf8.encode (65 + (col - 1) % 26)).size ≤ 1 := by rw [enc_1 col h1 h2]; exact Nat.le_refl _
    have z3 := itoaB_size row (by omega) (by omega)
    go_enter Tryz.func50, Tryz.ntmps50
    go_wp2_with (go_at_call 32; refine (HI.out _ (by (repeat (first | exact Below.refl _ _ | with_reducible assumption | refine bel_ext ?_ _ _ | refine bel_alloc ?_ _ | refine bel_drew ?_ | refine bel_drewN ?_ _ | refine bel_set ?_ (by simp; try omega) _)))).mono ?_; rintro e' w' ⟨rfl, hb'⟩; obtain ⟨d', o', rfl⟩ := hb'.ext; clear hb')
    go_ret
    exact ⟨ret_str hv.out, by (repeat (first | exact Below.refl _ _ | with_reducible assumption | refine bel_ext ?_ _ _ | refine bel_alloc ?_ _ | refine bel_drew ?_ | refine bel_drewN ?_ _ | refine bel_set ?_ (by simp; try omega) _))⟩
  · have hv := Lib.hid (place_1 col row h1 h h2)
    have z2 : (Utf8.encode (65 + (col - 1) % 26)).size ≤ 1 := by rw [enc_1 col h1 h2]; exact Nat.le_refl _
    have z3 := itoaB_size row (by omega) (by omega)
    go_enter Tryz.func50, Tryz.ntmps50
    go_wp2_with (go_at_call 32; refine (HI.out _ (by (repeat (first | exact Below.refl _ _ | with_reducible assumption | refine bel_ext ?_ _ _ | refine bel_alloc ?_ _ | refine bel_drew ?_ | refine bel_drewN ?_ _ | refine bel_set ?_ (by simp; try omega) _)))).mono ?_; rintro e' w' ⟨rfl, hb'⟩; obtain ⟨d', o', rfl⟩ := hb'.ext; clear hb')
    go_ret
    exact ⟨ret_str hv.out, by (repeat (first | exact Below.refl _ _ | with_reducible assumption | refine bel_ext ?_ _ _ | refine bel_alloc ?_ _ | refine bel_drew ?_ | refine bel_drewN ?_ _ | refine bel_set ?_ (by simp; try omega) _))⟩

theorem rightC_size {c : GCell} (h : rightC c = true) : c.sheet.size ≤ 8 := by
  have h1 : nameB c.sheet = true := by simp [rightC] at h; exact h.1
  by_cases h0 : 0 < c.sheet.size
  · rw [nameB_cons h0] at h1
    simp at h1
    omega
  · omega
/-- A cell as text. -/
def cellT (c : GCell) : ByteArray := c.sheet ++ ⟨#[33]⟩ ++ placeT c.col c.row

set_option maxHeartbeats 800000 in
theorem addr_Show (c : GCell) (hr : rightC c = true) (hs : c.sheet.size ≤ 9223372036854775807) (w : World) (hg : Gl w) :
    Calls Tryz.prog 49 #[.agg #[.string c.sheet, .int .i64 c.col, .int .i64 c.row]] w fun e w' => e = .returned (.string (cellT c)) ∧ Bel w w' := by
  have hb : 1 ≤ c.col ∧ c.col ≤ 702 ∧ 1 ≤ c.row ∧ c.row ≤ 999 := by simp [rightC, placeB] at hr; omega
  have z1 : c.sheet.size ≤ 8 := rightC_size hr
  have z2 := placeT_size c.col c.row hb.2.2.1 hb.2.2.2
  have z3 : (c.sheet ++ ⟨#[33]⟩ : ByteArray).size ≤ 9 := by rw [ByteArray.size_append]; show _ + 1 ≤ 9; omega
  obtain ⟨h1, h2, h3, h4⟩ := hb
  have HR := Lib.hid (fun w1 => addr_Right c hs w1)
  rw [hr] at HR
  have hp : ∀ w1, Bel w w1 → Gl w1 := fun w1 b => hg.bel b
  have HP := Lib.hid (fun w1 (b : Bel w w1) => addr_Place c.sheet c.col c.row h1 h2 h3 h4 w1 (hp w1 b))
  clear hg hp hr
  go_enter Tryz.func49, Tryz.ntmps49
  go_wp2_with (go_at_call 70; refine (HR.out _).mono ?_; rintro e' w' ⟨rfl, hb'⟩; obtain ⟨d', o', rfl⟩ := hb'.ext; clear hb')
  generalize hW : ext _ _ _ = W
  have hb0 : Bel w W := by rw [← hW]; (repeat (first | exact Below.refl _ _ | with_reducible assumption | refine bel_ext ?_ _ _ | refine bel_alloc ?_ _ | refine bel_drew ?_ | refine bel_drewN ?_ _ | refine bel_set ?_ (by simp; try omega) _))
  have hsz : w.heap.size < W.heap.size := by rw [← hW, size_ext]; show _ < (Array.push _ _).size + _; rw [Array.size_push]; omega
  have cA : ∀ k (v : Value), #[Value.string c.sheet, .int .i64 c.col, .int .i64 c.row][k]? = some v → W.cell? ⟨w.heap.size, k, none⟩ = some v := fun k v hk => by
    rw [← hW, cell_ext _ _ _ _ _ (by show _ < (Array.push _ _).size; rw [Array.size_push]; omega), World.cell?_alloc_at _ _ _ _ rfl]; exact hk
  have a0 : W.cell? ⟨w.heap.size, 0, none⟩ = some (.string c.sheet) := cA 0 _ rfl
  have a1 : W.cell? ⟨w.heap.size, 1, none⟩ = some (.int .i64 c.col) := cA 1 _ rfl
  have a2 : W.cell? ⟨w.heap.size, 2, none⟩ = some (.int .i64 c.row) := cA 2 _ rfl
  clear hW cA
  have hHB : ∀ p : BW W, Bel w p.w' := fun p => hb0.then_ p.h
  refine wp_region_bw (by kernel_rfl) (by kernel_rfl) ?_
  repeat (go_big_quiet_step ((go_at_call 50; exact Calls.bw (HP.out _ (hHB _)))))
  refine wpQuiet_nil ?_
  intro _ hw'
  obtain ⟨pq, hw''⟩ := hw'
  subst hw''
  obtain ⟨d', o', hpq⟩ := pq.h.ext
  rw [hpq]
  go_wp2
  go_ret
  exact ⟨rfl, by (repeat (first | exact Below.refl _ _ | with_reducible assumption | refine bel_ext ?_ _ _ | refine bel_alloc ?_ _ | refine bel_drew ?_ | refine bel_drewN ?_ _ | refine bel_set ?_ (by simp; try omega) _))⟩

end Go.Proofs.YtckalplhaggaoaaGreatDoor

namespace Go.Proofs.YtckalplhaggaoaaGreatDoor

/-- Each quote twice. -/
def dbl : Str → Str
  | [] => []
  | c :: r => if c = 34 then 34 :: 34 :: dbl r else c :: dbl r
theorem index_ne (x : UInt8) (s : Str) (h : x ≠ 34) : Lib.index (x :: s) [34] = if Lib.index s [34] == -1 then -1 else Lib.index s [34] + 1 := by
  rw [Lib.index]
  have : ([34] : Str).isPrefixOf (x :: s) = false := by simp [List.isPrefixOf]; exact fun e => h e.symm
  rw [this]; rfl
theorem replaceK_ne (x : UInt8) (s : Str) (new : Str) (k : Nat) (h : x ≠ 34) : Lib.replaceK [34] new k (x :: s) = x :: Lib.replaceK [34] new k s := by
  cases k with
  | zero => rfl
  | succ k =>
    have hge := Lib.index_ge s [34]
    rw [Lib.replaceK, Lib.replaceK, index_ne x s h]
    by_cases hi : Lib.index s [34] = -1
    · simp [hi]
    · obtain ⟨i, hi2⟩ : ∃ i : Nat, Lib.index s [34] = i := ⟨(Lib.index s [34]).toNat, by omega⟩
      rw [hi2]
      have e1 : ((i : Int) == -1) = false := by rw [beq_eq_false_iff_ne]; omega
      have e2 : ((i : Int) + 1 == -1) = false := by rw [beq_eq_false_iff_ne]; omega
      have e3 : ((i : Int) + 1).toNat = i + 1 := by omega
      simp [e1, e2, e3]
theorem replaceK_eq (s : Str) (new : Str) (k : Nat) : Lib.replaceK [34] new (k + 1) (34 :: s) = new ++ Lib.replaceK [34] new k s := by
  have : Lib.index (34 :: s) [34] = ((0 : Nat) : Int) := by rw [Lib.index]; simp [List.isPrefixOf]
  rw [Lib.replaceK_hit _ _ _ _ _ this]; simp
theorem dbl_eq (s : Str) : Lib.replaceAll s [34] [34, 34] = dbl s := by
  unfold Lib.replaceAll Lib.replace Lib.replaceNum
  rw [if_neg (by decide), if_pos (.inl (by decide)), Lib.count_one]
  induction s with
  | nil => rfl
  | cons c r ih =>
    by_cases hc : c = 34
    · subst hc
      rw [List.count_cons_self, replaceK_eq, ih, dbl, if_pos rfl]; rfl
    · rw [List.count_cons_of_ne hc, replaceK_ne _ _ _ _ hc, ih, dbl, if_neg hc]
theorem dbl_len (s : Str) : (dbl s).length ≤ 2 * s.length := by
  induction s with
  | nil => simp [dbl]
  | cons c r ih => rw [dbl]; split <;> simp <;> omega

/-- How a value is written. -/
def constS (v : GVal) : Str := if v.kind = 2 then 34 :: (dbl v.s.data.toList ++ [34]) else (showV v).data.toList
def cellS (c : GCell) : Str := c.sheet.data.toList ++ 33 :: placeS c.col c.row
mutual
/-- How a formula is written. -/
def showN : GNode → Str
  | ⟨k, op, nm, v, c, t, kids⟩ =>
    if k = 1 then constS v
    else if k = 2 then cellS c
    else if k = 3 then cellS c ++ 58 :: placeS t.col t.row
    else if k = 4 then op.data.toList ++ (showL kids).headD []
    else if k = 5 then 40 :: (Lib.join (showL kids) op.data.toList ++ [41])
    else if k = 6 then nm.data.toList ++ 40 :: (Lib.join (showL kids) [44] ++ [41])
    else [82, 69, 70, 33]
def showL : List GNode → List Str
  | [] => []
  | k :: ks => showN k :: showL ks
end
theorem showL_map : ∀ l, showL l = l.map showN
  | [] => by rw [showL]; rfl
  | k :: ks => by rw [showL, showL_map ks]; rfl
theorem showN_eq (n : GNode) : showN n = if n.kind = 1 then constS n.val
    else if n.kind = 2 then cellS n.cell
    else if n.kind = 3 then cellS n.cell ++ 58 :: placeS n.to.col n.to.row
    else if n.kind = 4 then n.op.data.toList ++ (n.kids.map showN).headD []
    else if n.kind = 5 then 40 :: (Lib.join (n.kids.map showN) n.op.data.toList ++ [41])
    else if n.kind = 6 then n.name.data.toList ++ 40 :: (Lib.join (n.kids.map showN) [44] ++ [41])
    else [82, 69, 70, 33] := by
  obtain ⟨a, b, c, d, e, f, g⟩ := n
  rw [showN, showL_map]

/-! ### Lengths -/
theorem join_le (sep : Str) : ∀ xs : List Str, (Lib.join xs sep).length ≤ (xs.map List.length).sum + sep.length * xs.length
  | [] => by rw [Lib.join_nil]; simp
  | x :: r => by
    rw [Lib.join_cons]
    have : (Lib.joinTail sep r).length = (r.map List.length).sum + sep.length * r.length := by
      unfold Lib.joinTail
      induction r with
      | nil => simp
      | cons y r ih => simp [Nat.mul_add] at ih ⊢; omega
    simp [this, Nat.mul_add]; omega
def okR (n : GNode) : Prop := rightR n = true ∧ okTop n
theorem placeS_len (col row : Int) (h3 : 1 ≤ row) (h4 : row ≤ 999) : (placeS col row).length ≤ 23 := by
  have := placeT_size col row h3 h4
  have e : (placeT col row).size = (placeS col row).length := by
    show (placeS col row).toArray.size = _; simp
  omega
theorem right_fields {n : GNode} (h : rightR n = true) : fieldsN n = true ∧ bareN n = true ∧ ∀ k ∈ n.kids, rightR k = true := by
  rw [rightR_eq] at h
  obtain ⟨h1, h2⟩ := Bool.and_eq_true_iff.1 h
  obtain ⟨h3, h4⟩ := Bool.and_eq_true_iff.1 h2
  rw [rightRL_all] at h3
  exact ⟨h4, h1, fun k hk => List.all_eq_true.1 h3 k hk⟩
theorem rightC_bd {c : GCell} (h : rightC c = true) : 1 ≤ c.col ∧ c.col ≤ 702 ∧ 1 ≤ c.row ∧ c.row ≤ 999 := by simp [rightC, placeB] at h; omega
theorem cellS_len {c : GCell} (h : rightC c = true) : (cellS c).length ≤ 32 := by
  have h1 := rightC_size h
  have h2 := rightC_bd h
  have h3 := placeS_len c.col c.row (by omega) (by omega)
  have h4 := len_data c.sheet
  unfold cellS
  simp; omega
theorem constS_len {v : GVal} (h : constV v = true) (h0 : -9223372036854775808 ≤ v.n) (h1 : v.n ≤ 9223372036854775807) : (constS v).length ≤ 402 := by
  unfold constS
  by_cases hk : v.kind = 2
  · rw [if_pos hk]
    have hs : v.s.size ≤ 200 := by
      simp [constV, rightV, hk] at h; omega
    have := dbl_len v.s.data.toList
    have := len_data v.s
    simp; omega
  · rw [if_neg hk, len_data]
    have hr : rightV v = true := by simp [constV] at h; exact h.1
    unfold showV
    rw [hr]
    by_cases h1' : v.kind = 1
    · have := itoaB_size v.n h0 h1
      simp [h1']; omega
    · have h3 : v.kind = 3 := by simp [constV, hk, h1'] at h; exact h.2
      simp [h3]; split <;> decide
theorem isOp_size {s : ByteArray} (h : isOp s = true) : s.size ≤ 2 := by
  have hs : s.size = s.toList.length := by rw [Lib.toList_data, len_data]
  simp only [isOp, isCmp, Bool.or_eq_true, beq_iff_eq] at h
  rcases h with (((((((((h | h) | h) | h) | h) | h) | h) | h) | h) | h) | h <;> (rw [hs, h]; decide)
theorem nszL_sum : ∀ l : List GNode, nszL l = (l.map nsz).sum
  | [] => by rw [nszL]; rfl
  | k :: ks => by rw [nszL, nszL_sum ks]; rfl
theorem callB_size {s : ByteArray} (h : callB s = true) : s.size ≤ 8 := by
  simp [callB] at h; omega
mutual
/-- The numbers of all nodes are ints. -/
def intsN : GNode → Prop
  | ⟨_, _, _, v, _, _, kids⟩ => (-9223372036854775808 ≤ v.n ∧ v.n ≤ 9223372036854775807) ∧ intsL kids
def intsL : List GNode → Prop
  | [] => True
  | k :: ks => intsN k ∧ intsL ks
end
theorem intsN_eq (n : GNode) : intsN n ↔ (-9223372036854775808 ≤ n.val.n ∧ n.val.n ≤ 9223372036854775807) ∧ intsL n.kids := by
  obtain ⟨a, b, c, d, e, f, g⟩ := n
  rw [intsN]
theorem intsL_all : ∀ l, intsL l ↔ ∀ k ∈ l, intsN k
  | [] => by rw [intsL]; simp
  | k :: ks => by rw [intsL, intsL_all ks]; simp
mutual
theorem RdN.ints {Z : Nat → Prop} {w : World} : ∀ (n : GNode) (s : Value), RdN Z w n s → intsN n
  | ⟨k, op, nm, v, c, t, kids⟩, s => by
    intro h
    unfold RdN at h
    obtain ⟨h0, A, cap, h1, h2, h3⟩ := h
    rw [intsN]
    refine ⟨⟨h0.2.2.2.2.1.1, h0.2.2.2.2.1.2.1⟩, ?_⟩
    cases kids with
    | nil => rw [intsL]; trivial
    | cons x xs =>
      obtain ⟨g, o, _, _, _, h4⟩ := h3 (by simp)
      exact RdL.ints g (x :: xs) o h4
theorem RdL.ints {Z : Nat → Prop} {w : World} (g : Nat) : ∀ (l : List GNode) (o : Nat), RdL Z w g l o → intsL l
  | [], o => by rw [intsL]; intro _; trivial
  | n :: ns, o => by
    intro h
    unfold RdL at h
    obtain ⟨⟨s, h1, h2⟩, h3⟩ := h
    rw [intsL]
    exact ⟨RdN.ints n s h1, RdL.ints g ns (o + 13) h3⟩
end

theorem sum_le (f g : GNode → Nat) (c : Nat) : ∀ l : List GNode, (∀ k ∈ l, f k ≤ c * g k) → (l.map f).sum ≤ c * (l.map g).sum
  | [], _ => by simp
  | k :: ks, h => by
    have h1 := sum_le f g c ks (fun x hx => h x (List.mem_cons_of_mem _ hx))
    have h2 := h k (List.mem_cons_self ..)
    simp [Nat.mul_add]; omega
/-- A formula is written in so many bytes. -/
theorem showN_len (N : Nat) : ∀ n : GNode, nsz n ≤ N → rightR n = true → intsN n → (showN n).length ≤ 500 * nsz n := by
  induction N with
  | zero => intro n hN; exfalso; have := nsz_pos n; omega
  | succ N ih =>
    intro n hN hr hi
    obtain ⟨hF, hB, hK⟩ := right_fields hr
    obtain ⟨⟨i0, i1⟩, hi2⟩ := (intsN_eq n).1 hi
    have hI := (intsL_all _).1 hi2
    have hk : ∀ k ∈ n.kids, (showN k).length ≤ 500 * nsz k := fun k hk => by
      obtain ⟨i, hi, rfl⟩ := List.mem_iff_getElem.1 hk
      exact ih _ (by have := nsz_kid n i hi; omega) (hK _ hk) (hI _ hk)
    have hs := sum_le (fun k => (showN k).length) nsz 500 n.kids hk
    have hn := nsz_eq n
    rw [nszL_sum] at hn
    have hmm : ((n.kids.map showN).map List.length).sum = (n.kids.map fun k => (showN k).length).sum := by rw [List.map_map]; rfl
    rw [showN_eq]
    unfold fieldsN at hF
    split
    · rename_i h1; rw [if_pos h1] at hF
      have := constS_len hF i0 i1; omega
    rename_i h1; rw [if_neg h1] at hF
    split
    · rename_i h2; rw [if_pos h2] at hF
      have := cellS_len hF; omega
    rename_i h2; rw [if_neg h2] at hF
    split
    · rename_i h3; rw [if_pos h3] at hF
      have ha : areaOk n.cell n.to = true := by simp [smallR] at hF; exact hF.1
      have hc : rightC n.cell = true ∧ rightC n.to = true := by simp [areaOk] at ha; exact ⟨ha.1, ha.2.1⟩
      have h4 := cellS_len hc.1
      have h5 := rightC_bd hc.2
      have h6 := placeS_len n.to.col n.to.row (by omega) (by omega)
      simp; omega
    rename_i h3; rw [if_neg h3] at hF
    split
    · rename_i h4; rw [if_pos h4] at hF
      have h5 : n.op.toList = [45] ∧ n.kids.length = 1 := by
        obtain ⟨h51, h52⟩ := Bool.and_eq_true_iff.1 hF
        exact ⟨by simpa using h51, by have := of_decide_eq_true h52; omega⟩
      have h6 : n.op.data.toList.length = 1 := by rw [← Lib.toList_data, h5.1]; rfl
      obtain ⟨x, hx⟩ : ∃ x, n.kids = [x] := List.length_eq_one_iff.1 h5.2
      have h7 := hk x (by rw [hx]; simp)
      rw [hx] at hn ⊢
      simp only [List.map_cons, List.map_nil, List.sum_cons, List.sum_nil, List.headD_cons, List.length_append] at hn ⊢
      omega
    rename_i h4; rw [if_neg h4] at hF
    split
    · rename_i h5; rw [if_pos h5] at hF
      have h6 : isOp n.op = true ∧ n.kids.length = 2 := by
        obtain ⟨h51, h52⟩ := Bool.and_eq_true_iff.1 hF
        exact ⟨h51, by have := of_decide_eq_true h52; omega⟩
      have h7 := isOp_size h6.1
      have h8 := join_le n.op.data.toList (n.kids.map showN)
      have h9 := len_data n.op
      rw [hmm, List.length_map, h6.2, h9] at h8
      simp only [List.length_cons, List.length_append, List.length_nil]
      omega
    rename_i h5; rw [if_neg h5] at hF
    split
    · rename_i h6; rw [if_pos h6] at hF
      have h7 : callB n.name = true ∧ n.kids.length ≤ 20 := by
        obtain ⟨h51, h52⟩ := Bool.and_eq_true_iff.1 hF
        exact ⟨h51, by have := of_decide_eq_true h52; omega⟩
      have h8 := join_le [44] (n.kids.map showN)
      have h9 := callB_size h7.1
      have h10 := len_data n.name
      rw [hmm, List.length_map] at h8
      simp only [List.length_cons, List.length_append, List.length_nil] at h8 ⊢
      omega
    · simp; omega

end Go.Proofs.YtckalplhaggaoaaGreatDoor
