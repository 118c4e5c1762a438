/- Towards InputBack: what is shown as input is read back as it was, for every entry and every text; no condition. Part 1 of 28. -/
import Derived.Lib.ItoaNum
import Derived.Lib.AtoiAll
import Derived.Lib.Strings
import Derived.Tactics
import Derived.Test.YtckalplhaggaoaaGreatDoorProg
import Derived.WalkKit
import Derived.WalkLawsBesides
import Derived.WalkSpells
import Derived.BigQuiet
import Derived.Deep.QuietTactic
import Derived.Lib.Hide
import Derived.Laws.StructEq
import Derived.Deep.LoopGhost
import Derived.OwnWalk
import Derived.WalkSmall
import Derived.Lib.LaidTab
import Derived.Sort.Grow
set_option linter.unusedVariables false
set_option linter.unusedSimpArgs false
namespace Go.Proofs.YtckalplhaggaoaaGreatDoor

/-! ### 1. Plain types -/
structure GVal where
  kind : Int
  n : Int
  s : ByteArray
  deriving DecidableEq
structure GCell where
  sheet : ByteArray
  col : Int
  row : Int
  deriving DecidableEq
structure GNode where
  kind : Int
  op : ByteArray
  name : ByteArray
  val : GVal
  cell : GCell
  to : GCell
  kids : List GNode
structure GEntry where
  cell : GCell
  formula : Bool
  node : GNode
  val : GVal

def GVal.zero : GVal := ⟨0, 0, ⟨#[]⟩⟩
def GCell.zero : GCell := ⟨⟨#[]⟩, 0, 0⟩
def GNode.zero : GNode := ⟨0, ⟨#[]⟩, ⟨#[]⟩, .zero, .zero, .zero, []⟩

/-! ### 2. Values (chapters 1, 2) -/
def rightV (v : GVal) : Bool :=
  if v.kind = 0 then v.n == 0 && v.s.toList.isEmpty
  else if v.kind = 1 then v.s.toList.isEmpty
  else if v.kind = 2 then v.n == 0 && decide ((v.s.size : Int) ≤ 200)
  else if v.kind = 3 then (v.n == 0 || v.n == 1) && v.s.toList.isEmpty
  else if v.kind = 4 then decide (1 ≤ v.n) && decide (v.n ≤ 7) && v.s.toList.isEmpty
  else false

def textV (s : ByteArray) : GVal := if (200 : Int) < s.size then ⟨4, 1, ⟨#[]⟩⟩ else ⟨2, 0, s⟩

def eqVal (a b : GVal) : Bool := a.kind == b.kind && (a.n == b.n && a.s.toList == b.s.toList)
def eqCell (a b : GCell) : Bool := a.sheet.toList == b.sheet.toList && (a.col == b.col && a.row == b.row)
theorem toList_inj {a b : ByteArray} (h : a.toList = b.toList) : a = b := by
  rw [Lib.toList_data, Lib.toList_data] at h
  obtain ⟨⟨x⟩⟩ := a
  obtain ⟨⟨y⟩⟩ := b
  simpa using h
theorem eqVal_iff (a b : GVal) : eqVal a b = true ↔ a = b := by
  obtain ⟨k, n, s⟩ := a
  obtain ⟨k', n', s'⟩ := b
  simp only [eqVal, Bool.and_eq_true, beq_iff_eq, GVal.mk.injEq]
  exact ⟨fun h => ⟨h.1, h.2.1, toList_inj h.2.2⟩, fun h => ⟨h.1, h.2.1, by rw [h.2.2]⟩⟩
theorem eqCell_iff (a b : GCell) : eqCell a b = true ↔ a = b := by
  obtain ⟨k, n, s⟩ := a
  obtain ⟨k', n', s'⟩ := b
  simp only [eqCell, Bool.and_eq_true, beq_iff_eq, GCell.mk.injEq]
  exact ⟨fun h => ⟨toList_inj h.1, h.2.1, h.2.2⟩, fun h => ⟨by rw [h.1], h.2.1, h.2.2⟩⟩
abbrev Str := List UInt8
def bs (l : Str) : ByteArray := ⟨l.toArray⟩
/-- How errors are shown. -/
def errNames : List ByteArray := [⟨#[35, 79, 86, 69, 82]⟩, ⟨#[35, 68, 73, 86]⟩, ⟨#[35, 84, 89, 80, 69]⟩, ⟨#[35, 82, 69, 70]⟩, ⟨#[35, 78, 65, 77, 69]⟩, ⟨#[35, 65, 82, 71, 83]⟩, ⟨#[35, 78, 79, 78, 69]⟩]
def itoaB (n : Int) : ByteArray := bs (Lib.itoa n)
/-- A value as text. -/
def showV (v : GVal) : ByteArray :=
  if rightV v = false then ⟨#[]⟩
  else if v.kind = 1 then itoaB v.n
  else if v.kind = 3 then (if v.n = 0 then ⟨#[70, 65, 76, 83, 69]⟩ else ⟨#[84, 82, 85, 69]⟩)
  else if v.kind = 4 then errNames.getD (v.n - 1).toNat ⟨#[]⟩
  else v.s


/-! ### 3. Cells (chapter 3) -/
def smallc (c : UInt8) : Bool := decide ((97 : Int) ≤ (c.toNat : Int)) && decide ((c.toNat : Int) ≤ 122)
def greatc (c : UInt8) : Bool := decide ((65 : Int) ≤ (c.toNat : Int)) && decide ((c.toNat : Int) ≤ 90)
def digitc (c : UInt8) : Bool := decide ((48 : Int) ≤ (c.toNat : Int)) && decide ((c.toNat : Int) ≤ 57)
/-- May a text name a sheet? -/
def nameB (s : ByteArray) : Bool :=
  match s.data.toList with
  | [] => false
  | c :: r => decide ((s.size : Int) ≤ 8) && smallc c && (c :: r).all (fun c => smallc c || digitc c)
def placeB (c : GCell) : Bool := decide (1 ≤ c.col) && decide (c.col ≤ 702) && decide (1 ≤ c.row) && decide (c.row ≤ 999)
def rightC (c : GCell) : Bool := nameB c.sheet && placeB c
theorem len_data (s : ByteArray) : s.data.toList.length = s.size := Array.length_toList
theorem nameB_nil {s : ByteArray} (h : s.toList = []) : nameB s = false := by
  rw [Lib.toList_data] at h
  simp [nameB, h]
theorem nameB_cons {s : ByteArray} (h : 0 < s.size) : nameB s = (decide ((s.size : Int) ≤ 8) && smallc s[0] && s.data.toList.all (fun c => smallc c || digitc c)) := by
  have h1 : ∃ c r, s.data.toList = c :: r := by
    cases hs : s.data.toList with
    | nil => exfalso; have h2 := len_data s; rw [hs] at h2; simp only [List.length_nil] at h2; omega
    | cons c r => exact ⟨c, r, rfl⟩
  obtain ⟨c, r, hs⟩ := h1
  have h2 : s[0] = c := by
    have h3 : s.data.toList[0]? = some s[0] := by
      rw [List.getElem?_eq_getElem (by rw [hs]; simp)]; rfl
    rw [hs] at h3
    simpa using h3.symm
  unfold nameB
  rw [hs, h2]
theorem toList_nil {s : ByteArray} (h : s.size = 0) : s.toList = [] := by
  rw [Lib.toList_data]
  exact List.eq_nil_of_length_eq_zero (by rw [len_data]; exact h)
theorem toList_ne {s : ByteArray} (h : 0 < s.size) : ¬ s.toList = [] := by
  rw [Lib.toList_data]
  intro e
  have h2 := len_data s
  rw [e] at h2; simp only [List.length_nil] at h2; omega
theorem all_false {p : UInt8 → Bool} (s : ByteArray) (k : Nat) (hk : k < s.size) (h : p s[k] = false) : s.data.toList.all p = false := by
  rw [List.all_eq_false]
  exact ⟨s[k], by show s.data[k]'hk ∈ s.data.toList; simp, by simp [h]⟩
/-- The first k bytes are all so. -/
def allTo (p : UInt8 → Bool) (s : ByteArray) (k : Nat) : Bool := (s.data.toList.take k).all p
theorem allTo_zero (p : UInt8 → Bool) (s : ByteArray) : allTo p s 0 = true := by simp [allTo]
theorem allTo_succ (p : UInt8 → Bool) (s : ByteArray) (k : Nat) (h : k < s.size) : allTo p s (k + 1) = (allTo p s k && p s[k]) := by
  have : s.data.toList.take (k + 1) = s.data.toList.take k ++ [s[k]] := by
    rw [List.take_succ_eq_append_getElem (by simpa using h)]; rfl
  simp [allTo, this]
theorem allTo_size (p : UInt8 → Bool) (s : ByteArray) : allTo p s s.size = s.data.toList.all p := by
  unfold allTo
  rw [List.take_of_length_le (by simp)]


/-! ### 4. Ranges, formulas (chapters 3, 5) -/
def areaOk (a b : GCell) : Bool := rightC a && (rightC b && (a.sheet.toList == b.sheet.toList && (decide (a.col ≤ b.col) && decide (a.row ≤ b.row))))
def areaN (a b : GCell) : Int := (b.col - a.col + 1) * (b.row - a.row + 1)
def smallR (a b : GCell) : Bool := areaOk a b && decide (areaN a b ≤ 400)
def eqOwn (a b : GNode) : Bool := a.kind == b.kind && (a.op.toList == b.op.toList && (a.name.toList == b.name.toList && (eqVal a.val b.val && (eqCell a.cell b.cell && eqCell a.to b.to))))
def onlyN (n : GNode) : GNode :=
  if n.kind = 1 then { GNode.zero with kind := n.kind, val := n.val }
  else if n.kind = 2 then { GNode.zero with kind := n.kind, cell := n.cell }
  else if n.kind = 3 then { GNode.zero with kind := n.kind, cell := n.cell, to := n.to }
  else if n.kind = 4 ∨ n.kind = 5 then { GNode.zero with kind := n.kind, op := n.op, kids := n.kids }
  else if n.kind = 6 then { GNode.zero with kind := n.kind, name := n.name, kids := n.kids }
  else { GNode.zero with kind := n.kind }
/-- May a value stand in a formula? -/
def constV (v : GVal) : Bool := rightV v && ((v.kind == 1 && decide (0 ≤ v.n)) || v.kind == 2 || v.kind == 3)
/-- May a text name a call? -/
def callB (s : ByteArray) : Bool := !s.toList.isEmpty && (decide ((s.size : Int) ≤ 8) && (!(s.toList == [84, 82, 85, 69]) && (!(s.toList == [70, 65, 76, 83, 69]) && s.data.toList.all greatc)))
def isCmp (s : ByteArray) : Bool := s.toList == [61] || s.toList == [60, 62] || s.toList == [60] || s.toList == [62] || s.toList == [60, 61] || s.toList == [62, 61]
def isOp (s : ByteArray) : Bool := isCmp s || s.toList == [38] || s.toList == [43] || s.toList == [45] || s.toList == [42] || s.toList == [47]
/-- A node's own fields. -/
def fieldsN (n : GNode) : Bool :=
  if n.kind = 1 then constV n.val
  else if n.kind = 2 then rightC n.cell
  else if n.kind = 3 then smallR n.cell n.to
  else if n.kind = 4 then n.op.toList == [45] && decide ((n.kids.length : Int) = 1)
  else if n.kind = 5 then isOp n.op && decide ((n.kids.length : Int) = 2)
  else if n.kind = 6 then callB n.name && decide ((n.kids.length : Int) ≤ 20)
  else n.kind == 7

/-! ### 5. Which of two is ahead -/
def cmpStr (x y : ByteArray) : Int := if Op.bytesLess x.toList y.toList = true then -1 else if (x.toList == y.toList) = true then 0 else 1
def cmpInt (x y : Int) : Int := if x < y then -1 else if y < x then 1 else 0
def or3 (x y z : Int) : Int := if x ≠ 0 then x else if y ≠ 0 then y else z
def compareV (a b : GVal) : Int := if rightV a = false ∨ rightV b = false then 0 else or3 (cmpInt a.kind b.kind) (cmpInt a.n b.n) (cmpStr a.s b.s)

/-! ### 6. Depth -/
mutual
def depthN : GNode → Int
  | ⟨_, _, _, _, _, _, kids⟩ => depthL kids 0 + 1
def depthL : List GNode → Int → Int
  | [], m => m
  | k :: ks, m => depthL ks (if m < depthN k then depthN k else m)
end
theorem depthN_eq (n : GNode) : depthN n = depthL n.kids 0 + 1 := by
  obtain ⟨a, b, c, d, e, f, g⟩ := n
  rw [depthN]
theorem depthL_append : ∀ (a b : List GNode) (m : Int), depthL (a ++ b) m = depthL b (depthL a m)
  | [], b, m => by simp [depthL]
  | k :: ks, b, m => by rw [List.cons_append, depthL, depthL_append ks b, depthL]
theorem depthL_ge : ∀ (l : List GNode) (m : Int), m ≤ depthL l m
  | [], m => by simp [depthL]
  | k :: ks, m => by
    rw [depthL]
    refine Int.le_trans ?_ (depthL_ge ks _)
    split <;> omega
theorem depthL_mono : ∀ (l : List GNode) (m m' : Int), m ≤ m' → depthL l m ≤ depthL l m'
  | [], m, m', h => by simpa [depthL] using h
  | k :: ks, m, m', h => by
    rw [depthL, depthL]
    refine depthL_mono ks _ _ ?_
    split <;> split <;> omega
theorem take_succ_get {α : Type} (l : List α) (i : Nat) (h : i < l.length) : l.take (i + 1) = l.take i ++ [l[i]] := List.take_succ_eq_append_getElem h
theorem depthL_succ (l : List GNode) (i : Nat) (h : i < l.length) : depthL (l.take (i + 1)) 0 = (if depthL (l.take i) 0 < depthN l[i] then depthN l[i] else depthL (l.take i) 0) := by
  rw [take_succ_get l i h, depthL_append, depthL, depthL]
theorem depthL_take_le (l : List GNode) (i : Nat) : depthL (l.take i) 0 ≤ depthL l 0 := by
  conv => rhs; rw [← List.take_append_drop i l, depthL_append]
  exact depthL_ge _ _
theorem depthN_pos (n : GNode) : 1 ≤ depthN n := by
  rw [depthN_eq]; have := depthL_ge n.kids 0; omega
theorem depthN_kid (n : GNode) (i : Nat) (h : i < n.kids.length) : depthN n.kids[i] < depthN n := by
  have h1 := depthL_take_le n.kids (i + 1)
  rw [depthL_succ _ _ h] at h1
  rw [depthN_eq n]
  split at h1 <;> omega
mutual
def nsz : GNode → Nat
  | ⟨_, _, _, _, _, _, kids⟩ => nszL kids + 1
def nszL : List GNode → Nat
  | [] => 0
  | k :: ks => nsz k + nszL ks
end
theorem nsz_eq (n : GNode) : nsz n = nszL n.kids + 1 := by
  obtain ⟨a, b, c, d, e, f, g⟩ := n
  rw [nsz]
theorem nsz_pos (n : GNode) : 0 < nsz n := by rw [nsz_eq]; omega
theorem nszL_get : ∀ (l : List GNode) (i : Nat) (h : i < l.length), nsz l[i] ≤ nszL l
  | k :: ks, 0, _ => by rw [nszL]; simp
  | k :: ks, i + 1, h => by
    rw [nszL]
    have := nszL_get ks i (by simpa using h)
    simp only [List.getElem_cons_succ]
    omega
theorem nsz_kid (n : GNode) (i : Nat) (h : i < n.kids.length) : nsz n.kids[i] < nsz n := by
  have := nszL_get n.kids i h
  rw [nsz_eq n]; omega

end Go.Proofs.YtckalplhaggaoaaGreatDoor

namespace Go.Proofs.YtckalplhaggaoaaGreatDoor
open Go.RowKit

/-! ### 1. Values as the machine has them -/
def valV (v : GVal) : Value := .agg #[.int .i64 v.kind, .int .i64 v.n, .string v.s]
def cellV (c : GCell) : Value := .agg #[.string c.sheet, .int .i64 c.col, .int .i64 c.row]

theorem ret_bool {a b : Bool} (h : a = b) : Ending.returned (.bool a) = .returned (.bool b) := by rw [h]
theorem ret_str {a b : ByteArray} (h : a = b) : Ending.returned (.string a) = .returned (.string b) := by rw [h]
theorem ret_int {k : IntKind} {a b : Int} (h : a = b) : Ending.returned (.int k a) = .returned (.int k b) := by rw [h]
/-! ### 2. The frame -/
/-- What was there is as it was. -/
abbrev Bel (w w' : World) : Prop := Below w.heap.size w w'

theorem Bel.cells {W w1 : World} (hb : Bel W w1) : ∀ b o, b < W.heap.size → w1.cell? ⟨b, o, none⟩ = W.cell? ⟨b, o, none⟩ := fun b o h => hb.cell (p := ⟨b, o, none⟩) h
theorem Bel.free {W w1 : World} (hb : Bel W w1) : ∀ b o, b < W.heap.size → w1.frozen? ⟨b, o, none⟩ = W.frozen? ⟨b, o, none⟩ := fun b o h => hb.frozen (p := ⟨b, o, none⟩) h
theorem Bel.then_ {w w1 w2 : World} (h : Bel w w1) (k : Bel w1 w2) : Bel w w2 := h.trans (k.mono h.size)

/-- w with more blocks behind it, so many orders drawn. -/
def ext (w : World) (d : Nat) (os : Array Obj) : World := { w with heap := w.heap ++ os, drawn := d }
theorem bel_ext_self (w : World) (d : Nat) (os : Array Obj) : Bel w (ext w d os) :=
  ⟨rfl, rfl, rfl, by simp [ext], fun k hk => by simp [ext, Array.getElem?_append, hk]⟩
theorem Bel.ext {w w' : World} (h : Bel w w') : ∃ d os, w' = Go.Proofs.YtckalplhaggaoaaGreatDoor.ext w d os := by
  refine ⟨w'.drawn, w'.heap.extract w.heap.size w'.heap.size, ?_⟩
  have hh : w'.heap = w.heap ++ w'.heap.extract w.heap.size w'.heap.size := by
    apply Array.ext_getElem?
    intro k
    simp only [Array.getElem?_append]
    by_cases hk : k < w.heap.size
    · rw [if_pos hk]; exact h.block k hk
    · rw [if_neg hk, Array.getElem?_extract]
      have := h.size
      by_cases hk2 : k < w'.heap.size
      · rw [if_pos (by omega)]; congr 1; omega
      · rw [if_neg (by omega)]; simp; omega
  have h1 := h.os; have h2 := h.tape; have h3 := h.output
  cases w; cases w'
  simp only [Go.Proofs.YtckalplhaggaoaaGreatDoor.ext] at *
  subst h1 h2 h3
  congr 1
theorem bel_ext {w W : World} (h : Bel w W) (d : Nat) (os : Array Obj) : Bel w (ext W d os) := h.then_ (bel_ext_self _ _ _)
theorem bel_alloc {w W : World} (h : Bel w W) (o : Obj) : Bel w (W.alloc o) := h.alloc h.size o
theorem bel_drew {w W : World} (h : Bel w W) : Bel w W.drew := h.drew
theorem bel_drewN {w W : World} (h : Bel w W) (n : Nat) : Bel w (W.drewN n) := ⟨h.os, h.tape, h.output, h.size, h.block⟩
theorem bel_set {w W : World} (h : Bel w W) {b o : Nat} (hb : w.heap.size ≤ b) (v : Value) : Bel w (W.setCell ⟨b, o, none⟩ v) := h.setCell hb v

@[go_sem] theorem size_ext (w : World) (d : Nat) (os : Array Obj) : (ext w d os).heap.size = w.heap.size + os.size := by simp [ext]
@[go_sem] theorem cell_ext (w : World) (d : Nat) (os : Array Obj) (b o : Nat) (h : b < w.heap.size) : (ext w d os).cell? ⟨b, o, none⟩ = w.cell? ⟨b, o, none⟩ := (bel_ext_self w d os).cells b o h
@[go_sem] theorem frozen_ext (w : World) (d : Nat) (os : Array Obj) (b o : Nat) (h : b < w.heap.size) : (ext w d os).frozen? ⟨b, o, none⟩ = w.frozen? ⟨b, o, none⟩ := (bel_ext_self w d os).free b o h
@[go_sem] theorem drew_ext (w : World) (d : Nat) (os : Array Obj) : (ext w d os).drew = ext w (d + 1) os := rfl
@[go_sem] theorem ext_drew (w : World) (d : Nat) (os : Array Obj) : ext w.drew d os = ext w d os := rfl
@[go_sem] theorem drewN_ext (w : World) (d n : Nat) (os : Array Obj) : (ext w d os).drewN n = ext w (d + n) os := rfl
@[go_sem] theorem ext_drewN (w : World) (d n : Nat) (os : Array Obj) : ext (w.drewN n) d os = ext w d os := rfl
@[go_sem] theorem ext_ext (w : World) (d d' : Nat) (os os' : Array Obj) : ext (ext w d os) d' os' = ext w d' (os ++ os') := by simp [ext, Array.append_assoc]
@[go_sem] theorem set_ext (w : World) (d : Nat) (os : Array Obj) (b o : Nat) (v : Value) (h : b < w.heap.size) : (ext w d os).setCell ⟨b, o, none⟩ v = ext (w.setCell ⟨b, o, none⟩ v) d os := by
  unfold ext World.setCell
  congr 1
  apply Array.ext_getElem?
  intro k
  simp only [Array.getElem?_modify, Array.getElem?_append, Array.size_modify]
  by_cases hk : k < w.heap.size
  · simp [hk]
  · have : b ≠ k := by omega
    simp [hk, this]
@[go_sem] theorem heap_ext (w : World) (d : Nat) (os : Array Obj) (b : Nat) (h : b < w.heap.size) : (ext w d os).heap[b]? = w.heap[b]? := (bel_ext_self w d os).block b h

@[go_sem] theorem lt1 (a m k : Nat) : (a < a + (m + 1) + k) = True := by simp; omega
@[go_sem] theorem lt2 (a m k j : Nat) : (a < a + (m + 1) + k + j) = True := by simp; omega
@[go_sem] theorem lt3 (a m k j i : Nat) : (a < a + (m + 1) + k + j + i) = True := by simp; omega
@[go_sem] theorem lt4 (a m k j i h : Nat) : (a < a + (m + 1) + k + j + i + h) = True := by simp; omega
@[go_sem] theorem lt5 (a m k j i h g : Nat) : (a < a + (m + 1) + k + j + i + h + g) = True := by simp; omega
@[go_sem] theorem lt6 (a m k j i h g f : Nat) : (a < a + (m + 1) + k + j + i + h + g + f) = True := by simp; omega
@[go_sem] theorem lq1 (a b k : Nat) (h : a < b) : (a < b + k) = True := by simp; omega
@[go_sem] theorem lq2 (a b k j : Nat) (h : a < b) : (a < b + k + j) = True := by simp; omega
@[go_sem] theorem lq3 (a b k j i : Nat) (h : a < b) : (a < b + k + j + i) = True := by simp; omega
@[go_sem] theorem lq4 (a b k j i l : Nat) (h : a < b) : (a < b + k + j + i + l) = True := by simp; omega
@[go_sem] theorem lq5 (a b k j i l m : Nat) (h : a < b) : (a < b + k + j + i + l + m) = True := by simp; omega
@[go_sem] theorem lq6 (a b k j i l m n : Nat) (h : a < b) : (a < b + k + j + i + l + m + n) = True := by simp; omega

/-- What the library's variables hold. -/
structure Gl (w : World) : Prop where
  tab : Lib.TabIs Tryz.prog w "internal/strconv.uint64pow10" .u64 Lib.pow10Tab
  syn : ∃ tp p, w.var? Tryz.prog "strconv.ErrSyntax" = some #[.iface tp p]
  ran : ∃ tp p, w.var? Tryz.prog "strconv.ErrRange" = some #[.iface tp p]
  max : ∃ m, w.cell? ⟨3, 0, none⟩ = some (.int .i64 m)
  size : 8 ≤ w.heap.size
theorem glob2 : Tryz.prog.globalNamed "internal/strconv.uint64pow10" = some 2 := by kernel_rfl
theorem glob0 : Tryz.prog.globalNamed "strconv.ErrSyntax" = some 0 := by kernel_rfl
theorem glob1 : Tryz.prog.globalNamed "strconv.ErrRange" = some 1 := by kernel_rfl
theorem Gl.bel {w w' : World} (h : Gl w) (b : Bel w w') : Gl w' := by
  have hs := h.size
  obtain ⟨ts, ps, h1⟩ := h.syn
  obtain ⟨tr, pr, h2⟩ := h.ran
  obtain ⟨m, h3⟩ := h.max
  exact ⟨var?_below b glob2 (by omega) h.tab, ⟨ts, ps, var?_below b glob0 (by omega) h1⟩, ⟨tr, pr, var?_below b glob1 (by omega) h2⟩, ⟨m, (b.cells _ _ (by omega)).trans h3⟩, Nat.le_trans hs b.size⟩
theorem bel_of_grow {w w' : World} (h : ∃ k os, w' = Go.Sort.grow (w.drewN k) os) : Bel w w' := by
  obtain ⟨k, os, rfl⟩ := h
  exact ⟨rfl, rfl, rfl, by simp [Go.Sort.grow], fun i hi => by simp [Go.Sort.grow, Array.getElem?_append, hi]⟩

/-- A world of the class 'what was there is as it was', for a region that draws its order. -/
structure BW (w : World) where
  w' : World
  h : Bel w w'
theorem BW.cell {w : World} (p : BW w) (b o : Nat) (h : b < w.heap.size) : p.w'.cell? ⟨b, o, none⟩ = w.cell? ⟨b, o, none⟩ := p.h.cells b o h
theorem BW.free {w : World} (p : BW w) (b o : Nat) (h : b < w.heap.size) : p.w'.frozen? ⟨b, o, none⟩ = w.frozen? ⟨b, o, none⟩ := p.h.free b o h
theorem wp_region_bw {P : Program} {id : Nat} {Q : Exit → Act → World → Prop} {a : Act} {w : World} {l : List Oper} (hm : P.follows .mixedOrders = true) (hB : Region.lexB .any l.toArray = true)
    (h : wpQuiet P l.toArray (fun w' => ∃ p : BW w, w' = p.w') (fun a' => ∀ w', (∃ p : BW w, w' = p.w') → Q .normal a' w') l a) : (Code.region id l.toArray true).wp P Q a w :=
  wp_region_quiet (C := fun w' => ∃ p : BW w, w' = p.w') hm hB ⟨⟨w.drew, (Below.refl _ _).drew⟩, rfl⟩ (by simpa using h)
theorem Calls.bw {P : Program} {f : FuncId} {args : Array Value} {w : World} {p : BW w} {v : Value}
    (h : Calls P f args p.w' fun e w' => e = .returned v ∧ Bel p.w' w') : Calls P f args p.w' fun e w'' => e = .returned v ∧ ∃ q : BW w, w'' = q.w' :=
  h.mono fun _ _ ⟨he, hb⟩ => ⟨he, ⟨_, p.h.then_ hb⟩, rfl⟩

end Go.Proofs.YtckalplhaggaoaaGreatDoor

namespace Go.Proofs.YtckalplhaggaoaaGreatDoor
open Go.RowKit

theorem bel1 (w : World) (o : Obj) : Bel w (w.alloc o) := (Below.refl _ _).alloc (Nat.le_refl _) _

set_option maxHeartbeats 400000 in
theorem value_Right (v : GVal) (w : World) :
    Calls Tryz.prog 31 #[.agg #[.int .i64 v.kind, .int .i64 v.n, .string v.s]] w fun e w' => e = .returned (.bool (rightV v)) ∧ Bel w w' := by
  go_enter Tryz.func31, Tryz.ntmps31
  go_wp2
  all_goals (go_ret; refine ⟨congrArg (fun b => Ending.returned (.bool b)) ?_, bel1 _ _⟩; go_tidy; first | (simp_all [rightV]; done) | (simp_all [rightV]; omega))

end Go.Proofs.YtckalplhaggaoaaGreatDoor

namespace Go.Proofs.YtckalplhaggaoaaGreatDoor
open Go.RowKit

set_option maxHeartbeats 400000 in
theorem arith_Int (n : Int) (w : World) :
    Calls Tryz.prog 36 #[.int .i64 n] w fun e w' => e = .returned (.agg #[.int .i64 1, .int .i64 n, .string ⟨#[]⟩]) ∧ Bel w w' := by
  go_enter Tryz.func36, Tryz.ntmps36
  go_wp2
  exact bodyPost_ret (v := .agg #[.int .i64 1, .int .i64 n, .string ⟨#[]⟩]) (by simp [results, Tryz.results36, go_sem]) rfl ⟨rfl, bel1 _ _⟩

set_option maxHeartbeats 400000 in
theorem arith_Err (n : Int) (w : World) :
    Calls Tryz.prog 56 #[.int .i64 n] w fun e w' => e = .returned (.agg #[.int .i64 4, .int .i64 n, .string ⟨#[]⟩]) ∧ Bel w w' := by
  go_enter Tryz.func56, Tryz.ntmps56
  go_wp2
  exact bodyPost_ret (v := .agg #[.int .i64 4, .int .i64 n, .string ⟨#[]⟩]) (by simp [results, Tryz.results56, go_sem]) rfl ⟨rfl, bel1 _ _⟩

set_option maxHeartbeats 400000 in
theorem arith_Bool (b : Bool) (w : World) :
    Calls Tryz.prog 37 #[.bool b] w fun e w' => e = .returned (.agg #[.int .i64 3, .int .i64 (if b then 1 else 0), .string ⟨#[]⟩]) ∧ Bel w w' := by
  cases b
  all_goals
    go_enter Tryz.func37, Tryz.ntmps37
    go_wp2
    exact bodyPost_ret (v := .agg #[.int .i64 3, .int .i64 _, .string ⟨#[]⟩]) (by simp [results, Tryz.results37, go_sem]) rfl ⟨rfl, bel1 _ _⟩

set_option maxHeartbeats 400000 in
theorem arith_Text (s : ByteArray) (w : World) :
    Calls Tryz.prog 38 #[.string s] w fun e w' => e = .returned (valV (textV s)) ∧ Bel w w' := by
  go_enter Tryz.func38, Tryz.ntmps38
  go_wp2_with (go_at_call 56; refine (arith_Err _ _).mono ?_; rintro e w1 ⟨rfl, hb1⟩; obtain ⟨d1, o1, rfl⟩ := hb1.ext; clear hb1)
  · have h : (200 : Int) < s.size := by assumption
    exact bodyPost_ret (v := valV (textV s)) (by simp [results, Tryz.results38, go_sem, textV, valV, h]) rfl ⟨rfl, by (repeat (first | exact Below.refl _ _ | with_reducible assumption | refine bel_ext ?_ _ _ | refine bel_alloc ?_ _ | refine bel_drew ?_ | refine bel_drewN ?_ _ | refine bel_set ?_ (by simp; try omega) _))⟩
  · have h : ¬ (200 : Int) < s.size := by omega
    exact bodyPost_ret (v := valV (textV s)) (by simp [results, Tryz.results38, go_sem, textV, valV, h]) rfl ⟨rfl, bel1 _ _⟩

end Go.Proofs.YtckalplhaggaoaaGreatDoor
