/- Towards InputBack: what is shown as input is read back as it was, for every entry and every text; no condition. Part 28 of 28. -/
import Derived.Test.YtckalplhaggaoaaGreatDoorX27
import Derived.ChangeArms
import Derived.SizedLaws
import Derived.DataReads
import Derived.WideShapes
import Derived.Test.YtckalplhaggaoaaGreatDoorRows
import Derived.Test.YtckalplhaggaoaaGreatDoorX01
import Derived.Lib.LaidU8
import Derived.MakeChecks
import Derived.Shelf.Vars
import Derived.ProofKit
import Derived.Handed
import Derived.Lay
import Derived.LaidLaws
import Derived.Test.YtckalplhaggaoaaGreatDoorTie
import Derived.Test.YtckalplhaggaoaaGreatDoorCards
import Derived.SevenTiedAt
set_option linter.unusedVariables false
set_option linter.unusedSimpArgs false
namespace Go.Proofs.YtckalplhaggaoaaGreatDoor
open Go.RowKit

theorem cutAt {α : Type} (cs : List α) (o n m : Nat) (hm : m = o + n) : cs.drop o = (cs.drop o).take n ++ cs.drop m := by
  subst hm
  rw [← List.drop_drop]
  exact (List.take_append_drop n _).symm
theorem list_of {α : Type} {p : Nat → α → Prop} : ∀ n, (∀ i, i < n → ∃ x, p i x) → ∃ l : List α, l.length = n ∧ ∀ i x, l[i]? = some x → p i x
  | 0, _ => ⟨[], rfl, fun i x h => by simp at h⟩
  | n + 1, h => by
    obtain ⟨l, h1, h2⟩ := list_of n fun i hi => h i (Nat.lt_succ_of_lt hi)
    obtain ⟨x, hx⟩ := h n (Nat.lt_succ_self n)
    refine ⟨l ++ [x], by simp [h1], fun i y hy => ?_⟩
    rcases Nat.lt_trichotomy i n with hi | hi | hi
    · rw [List.getElem?_append_left (by omega)] at hy
      exact h2 i y hy
    · subst hi
      rw [List.getElem?_append_right (by omega), h1, Nat.sub_self] at hy
      obtain rfl : x = y := by simpa using hy
      exact hx
    · rw [List.getElem?_eq_none (by simp; omega)] at hy
      cases hy
theorem cellsI : Tryz.prog.cellsOf 3 = 1 := by kernel_rfl
theorem cellsS : Tryz.prog.cellsOf 9 = 1 := by kernel_rfl
theorem cellsB : Tryz.prog.cellsOf 4 = 1 := by kernel_rfl
theorem cellsK : Tryz.prog.cellsOf 26 = 1 := by kernel_rfl
theorem cellsV : Tryz.prog.cellsOf 25 = 3 := by kernel_rfl
theorem cellsC : Tryz.prog.cellsOf 23 = 3 := by kernel_rfl
theorem cellsN : Tryz.prog.cellsOf 28 = 13 := by kernel_rfl
theorem cellsE : Tryz.prog.cellsOf 30 = 20 := by kernel_rfl
theorem bytesN : Tryz.prog.bytesOf 28 = 160 := by kernel_rfl

section
variable {H : Type} {enc : TypeId × Value → H} {w : World} {held : Bool}

/-- What a datum holds lies within reach. -/
def InReach (t : TypeId) (d : DataW H) : Prop := ∀ m ∈ d.weights Tryz.prog t, m ≤ 140737488351232
theorem weightsAll_mem {P : Program} {e : TypeId} : ∀ {l : List (DataW H)} {d : DataW H}, d ∈ l → ∀ n ∈ d.weights P e, n ∈ DataW.weightsAll P e l
  | x :: l, d, hd, n, hn => by
    simp only [DataW.weightsAll, List.mem_append]
    rcases List.mem_cons.1 hd with rfl | hd
    · exact .inl hn
    · exact .inr (weightsAll_mem hd n hn)

theorem part {fs : Array Field} {t : TypeId} {n : Nat} {cs : List Value} {x : DataW H × List MemPlace} (ht : Tryz.prog.underlying t = some (.struct fs)) (h : DataW.trod enc Tryz.prog w 0 (fun _ => true) held n t cs = some x) (hr : InReach t x.1) :
    ∃ m, cs.length = Tryz.prog.cellsOf t ∧ n = m + 1 ∧ ∀ (i : Nat) (u : TypeId) (o c : Nat), (fs[i]?).map (fun f => (f.type, f.offset)) = some (u, o) → Tryz.prog.cellsOf u = c → ∃ y, DataW.trod enc Tryz.prog w 0 (fun _ => true) held m u ((cs.drop o).take c) = some y ∧ InReach u y.1 := by
  obtain ⟨xs, m, rfl, rfl, hl, hx, hall⟩ := DataW.trod_struct ht h
  refine ⟨m, hl, rfl, fun i u o c huo hc => ?_⟩
  obtain ⟨f, hf, hfu⟩ := Option.map_eq_some_iff.1 huo
  obtain ⟨rfl, rfl⟩ := Prod.mk.inj hfu
  subst hc
  have hi : i < fs.size := (Array.getElem?_eq_some_iff.1 hf).1
  obtain ⟨y, hy⟩ : ∃ y, xs[i]? = some y := ⟨xs[i]'(by omega), List.getElem?_eq_getElem (by omega)⟩
  refine ⟨y, (hall i f hf).trans hy, fun k hk => hr k ?_⟩
  simp only [DataW.weights, ht]
  exact DataW.weights_mem_each (j := i) (t := f.type) (by simp [hf]) (by simp [hy]) k hk

variable {n : Nat} {cs : List Value} {x : DataW H × List MemPlace}
theorem open_I (h : DataW.trod enc Tryz.prog w 0 (fun _ => true) held n 3 cs = some x) : ∃ k : Int, cs = [.int .i64 k] ∧ -9223372036854775808 ≤ k ∧ k ≤ 9223372036854775807 := by
  obtain ⟨k, rfl, _, hw⟩ := DataW.trod_int Tryz.underlying3 h
  exact ⟨k, rfl, by simpa [Lit.wf, IntKind.min, IntKind.max, IntKind.signed, IntKind.bits] using hw⟩
theorem open_S (h : DataW.trod enc Tryz.prog w 0 (fun _ => true) held n 9 cs = some x) (hr : InReach 9 x.1) : ∃ s : ByteArray, cs = [.string s] ∧ s.size ≤ 140737488351232 := by
  obtain ⟨s, rfl, rfl, _⟩ := DataW.trod_string Tryz.underlying9 h
  exact ⟨s, rfl, hr s.data.toList.length (by simp [DataW.weights])⟩
theorem open_B (h : DataW.trod enc Tryz.prog w 0 (fun _ => true) held n 4 cs = some x) : ∃ b : Bool, cs = [.bool b] := by
  obtain ⟨b, rfl, _⟩ := DataW.trod_bool Tryz.underlying4 h
  exact ⟨b, rfl⟩
theorem open_V (h : DataW.trod enc Tryz.prog w 0 (fun _ => true) held n 25 cs = some x) (hr : InReach 25 x.1) : ∃ v : GVal, cs = [.int .i64 v.kind, .int .i64 v.n, .string v.s] ∧ okVal v := by
  obtain ⟨m, hl, rfl, hp⟩ := part Tryz.underlying25 h hr
  rw [cellsV] at hl
  obtain ⟨y0, h0, _⟩ := hp 0 3 0 1 rfl cellsI
  obtain ⟨y1, h1, _⟩ := hp 1 3 1 1 rfl cellsI
  obtain ⟨y2, h2, r2⟩ := hp 2 9 2 1 rfl cellsS
  obtain ⟨a, ha, _⟩ := open_I h0
  obtain ⟨b, hb, b0, b1⟩ := open_I h1
  obtain ⟨s, hs, s0⟩ := open_S h2 r2
  have e := cutAt cs 0 1 1 rfl
  rw [ha, cutAt cs 1 1 2 rfl, hb, cutAt cs 2 1 3 rfl, hs, List.drop_eq_nil_of_le (show cs.length ≤ 3 by omega)] at e
  exact ⟨⟨a, b, s⟩, e, b0, b1, s0⟩
theorem open_C (h : DataW.trod enc Tryz.prog w 0 (fun _ => true) held n 23 cs = some x) (hr : InReach 23 x.1) : ∃ c : GCell, cs = [.string c.sheet, .int .i64 c.col, .int .i64 c.row] ∧ okCell c := by
  obtain ⟨m, hl, rfl, hp⟩ := part Tryz.underlying23 h hr
  rw [cellsC] at hl
  obtain ⟨y0, h0, r0⟩ := hp 0 9 0 1 rfl cellsS
  obtain ⟨y1, h1, _⟩ := hp 1 3 1 1 rfl cellsI
  obtain ⟨y2, h2, _⟩ := hp 2 3 2 1 rfl cellsI
  obtain ⟨s, hs, s0⟩ := open_S h0 r0
  obtain ⟨a, ha, a0, a1⟩ := open_I h1
  obtain ⟨b, hb, b0, b1⟩ := open_I h2
  have e := cutAt cs 0 1 1 rfl
  rw [hs, cutAt cs 1 1 2 rfl, ha, cutAt cs 2 1 3 rfl, hb, List.drop_eq_nil_of_le (show cs.length ≤ 3 by omega)] at e
  exact ⟨⟨s, a, b⟩, e, s0, a0, a1, b0, b1⟩
end

section
variable {H : Type} {enc : TypeId × Value → H} {w : World} {held : Bool}
theorem open_N : ∀ (n : Nat) (cs : List Value) (x : DataW H × List MemPlace), DataW.trod enc Tryz.prog w 0 (fun _ => true) held n 28 cs = some x → InReach 28 x.1 → ∃ g s, cs = nodeCells g s ∧ RdN (fun _ => True) w g s := by
  intro n
  induction n using Nat.strongRecOn with
  | _ n ih =>
  intro cs x h hr
  obtain ⟨m, hl, rfl, hp⟩ := part Tryz.underlying28 h hr
  rw [cellsN] at hl
  obtain ⟨y0, h0, _⟩ := hp 0 3 0 1 rfl cellsI
  obtain ⟨y1, h1, r1⟩ := hp 1 9 1 1 rfl cellsS
  obtain ⟨y2, h2, r2⟩ := hp 2 9 2 1 rfl cellsS
  obtain ⟨y3, h3, r3⟩ := hp 3 25 3 3 rfl cellsV
  obtain ⟨y4, h4, r4⟩ := hp 4 23 6 3 rfl cellsC
  obtain ⟨y5, h5, r5⟩ := hp 5 23 9 3 rfl cellsC
  obtain ⟨y6, h6, r6⟩ := hp 6 26 12 1 rfl cellsK
  obtain ⟨k, hk, k0, k1⟩ := open_I h0
  obtain ⟨op, ho, o0⟩ := open_S h1 r1
  obtain ⟨nm, hn, n0⟩ := open_S h2 r2
  obtain ⟨v, hv, v0⟩ := open_V h3 r3
  obtain ⟨c, hc, c0⟩ := open_C h4 r4
  obtain ⟨t, ht, t0⟩ := open_C h5 r5
  have e := cutAt cs 0 1 1 rfl
  rw [hk, cutAt cs 1 1 2 rfl, ho, cutAt cs 2 1 3 rfl, hn, cutAt cs 3 3 6 rfl, hv, cutAt cs 6 3 9 rfl, hc, cutAt cs 9 3 12 rfl, ht, cutAt cs 12 1 13 rfl, List.drop_eq_nil_of_le (show cs.length ≤ 13 by omega)] at e
  rcases DataW.trod_slice Tryz.underlying26 h6 with ⟨hs, _⟩ | ⟨a, len, cap, elems, rest, j, rfl, hs, hx, _, hlc, _, hel, hall, _, _⟩
  · rw [hs] at e
    refine ⟨⟨k, op, nm, v, c, t, []⟩, _, e, ?_⟩
    unfold RdN
    exact ⟨⟨k0, k1, o0, n0, v0, c0, t0, Nat.zero_le _⟩, none, 0, rfl, Nat.le_refl _, fun hp => absurd hp (by simp)⟩
  · rw [hs] at e
    simp only [cellsN] at hall
    have hw6 : (elems.length + rest.length) * 160 ≤ 140737488351232 := by
      have := r6 ((elems.length + rest.length) * Tryz.prog.bytesOf 28) (by rw [hx]; simp [DataW.weights, Tryz.underlying26])
      rwa [bytesN] at this
    have hkid : ∀ i, i < len → ∃ g : GNode, ∃ s, RdN (fun _ => True) w g s ∧ w.cells? 0 (a.add (i * 13)) 13 = some (nodeCells g s) := fun i hi => by
      have hi' := hall i hi
      obtain ⟨y, hy⟩ : ∃ y, elems[i]? = some y := ⟨elems[i]'(by omega), List.getElem?_eq_getElem (by omega)⟩
      rw [hy] at hi'
      obtain ⟨cs', hc', ht'⟩ := Option.bind_eq_some_iff.1 hi'
      obtain ⟨g, s, rfl, hrd⟩ := ih j (by omega) cs' y ht' (fun q hq => r6 q (by
        rw [hx]
        simp only [DataW.weights, Tryz.underlying26, List.mem_cons, List.mem_append]
        exact .inr (.inl (weightsAll_mem (List.mem_map.2 ⟨y, List.mem_of_getElem? hy, rfl⟩) q hq))))
      exact ⟨g, s, hrd, hc'⟩
    obtain ⟨kids, hkl, hkids⟩ := list_of len hkid
    obtain ⟨g, o, sp⟩ := a
    have hsp : 0 < len → sp = none ∧ g < w.heap.size := fun hp => by
      obtain ⟨n, s, _, h2⟩ := hkid 0 hp
      have h3 : w.cell? ⟨g, o, sp⟩ = some (.int .i64 n.kind) := by simpa [Addr.add, nodeCells] using (World.cells?_some h2).2.2 0 (by omega)
      exact ⟨World.cell?_spot h3, World.block_lt_of_cell? (h := h3)⟩
    refine ⟨⟨k, op, nm, v, c, t, kids⟩, _, e, ?_⟩
    unfold RdN
    refine ⟨⟨k0, k1, o0, n0, v0, c0, t0, by show kids.length ≤ _; omega⟩, some ⟨g, o, sp⟩, cap, by rw [hkl], by omega, fun hp => ?_⟩
    obtain ⟨rfl, hg⟩ := hsp (by omega)
    refine ⟨g, o, rfl, trivial, hg, RdL.of kids o fun i n hi => ?_⟩
    obtain ⟨s, h1, hs2⟩ := hkids i n hi
    have h2 : ∀ q, q < 13 → w.cell? ⟨g, o + i * 13 + q, none⟩ = (nodeCells n s)[q]? := fun q hq => by
      have := (World.cells?_some hs2).2.2 q hq
      rwa [Lib.add_plain, Lib.add_plain] at this
    exact ⟨s, h1, h2 0 (by omega), h2 1 (by omega), h2 2 (by omega), h2 3 (by omega), h2 4 (by omega), h2 5 (by omega), h2 6 (by omega), h2 7 (by omega), h2 8 (by omega), h2 9 (by omega), h2 10 (by omega), h2 11 (by omega), h2 12 (by omega)⟩

theorem open_E {n : Nat} {cs : List Value} {x : DataW H × List MemPlace} (h : DataW.trod enc Tryz.prog w 0 (fun _ => true) held n 30 cs = some x) (hr : InReach 30 x.1) :
    ∃ cell f g v A k c, Value.agg cs.toArray = entV ⟨cell, f, g, v⟩ (.slice A k c) ∧ RdN (fun _ => True) w g (.slice A k c) ∧ okVal v := by
  obtain ⟨m, hl, rfl, hp⟩ := part Tryz.underlying30 h hr
  rw [cellsE] at hl
  obtain ⟨y0, h0, r0⟩ := hp 0 23 0 3 rfl cellsC
  obtain ⟨y1, h1, _⟩ := hp 1 4 3 1 rfl cellsB
  obtain ⟨y2, h2, r2⟩ := hp 2 28 4 13 rfl cellsN
  obtain ⟨y3, h3, r3⟩ := hp 3 25 17 3 rfl cellsV
  obtain ⟨cell, hc, _⟩ := open_C h0 r0
  obtain ⟨f, hf⟩ := open_B h1
  obtain ⟨g, s, hg, hrd⟩ := open_N _ _ _ h2 r2
  obtain ⟨v, hv, v0⟩ := open_V h3 r3
  have e := cutAt cs 0 3 3 rfl
  rw [hc, cutAt cs 3 1 4 rfl, hf, cutAt cs 4 13 17 rfl, hg, cutAt cs 17 3 20 rfl, hv, List.drop_eq_nil_of_le (show cs.length ≤ 20 by omega)] at e
  obtain ⟨_, A, cp, rfl, _⟩ := hrd.kids
  refine ⟨cell, f, g, v, A, _, cp, ?_, hrd, v0⟩
  have e' : cs = _ := e
  rw [e']
  rfl
end
end Go.Proofs.YtckalplhaggaoaaGreatDoor

namespace Go.Proofs.YtckalplhaggaoaaGreatDoor
open Go.RowKit

theorem iface_of_trod {H : Type} {enc : TypeId × Value → H} {P : Program} {w : World} {base : Nat} {sp : Nat → Bool} {fuel : Nat} {t : TypeId} {ms : Array (String × TypeId)} {cs : List Value} {nm : String} {d : DataW H} {p : List MemPlace} (ht : P.underlying t = some (.interface ms))
    (h : DataW.trod enc P w base sp false fuel t cs = some (.iface nm d, p)) : ∃ u v, cs = [.iface u v] := by
  cases fuel with
  | zero => simp [DataW.trod] at h
  | succ n =>
    unfold DataW.trod at h
    rw [ht] at h
    split at h <;> simp_all
theorem var_iface {w : World} {name nm : String} {d : DataW Unit} {g : Nat} (hg : Tryz.prog.globalNamed name = some g) (hty : (Tryz.prog.globals[g]?).map (·.type) = some 62) (h : Lib.VarReads Tryz.prog w name (.iface nm d)) :
    ∃ tp p, w.var? Tryz.prog name = some #[.iface tp p] := by
  obtain ⟨g', t, cs, fuel, p, h1, h2, h3, h4⟩ := h
  obtain rfl := Option.some.inj (hg.symm.trans h1)
  obtain rfl := Option.some.inj (hty.symm.trans h2)
  obtain ⟨u, v, hc⟩ := iface_of_trod Tryz.underlying62 h4
  exact ⟨u, v, by rw [h3, show cs = #[.iface u v] from Array.toList_inj.1 hc]⟩
theorem gl_of {w : World} (hL : laidMet Tryz.prog Rows.inputBackRow.laid w) (hsh : w.ShapedOpen Tryz.prog) : Gl w := by
  have hR : ∀ n d, (n, d) ∈ Rows.inputBackRow.laid → Lib.VarReads Tryz.prog w n d := fun n d hm => Lib.laidMet.reads hL hm
  refine ⟨?_, ?_, ?_, ?_, ?_⟩
  · obtain ⟨g', t, cs, fuel, p, h1, h2, h3, h4⟩ := hR "internal/strconv.uint64pow10" Rows.laid_internal_strconv_uint64pow10 (.tail _ (.tail _ (.head _)))
    obtain rfl := Option.some.inj (glob2.symm.trans h1)
    obtain rfl := Option.some.inj ((show (Tryz.prog.globals[(2 : Nat)]?).map (·.type) = some 143 by kernel_rfl).symm.trans h2)
    have e : Rows.laid_internal_strconv_uint64pow10 = (Lib.tabData .u64 Lib.pow10Tab : DataW Unit) := rfl
    rw [e] at h4
    have hc := Lib.cells_of_tab Tryz.underlying143 Tryz.underlying118 (by kernel_rfl) (by kernel_rfl) h4
    unfold Lib.TabIs
    rw [h3, ← hc]
  · exact var_iface glob0 (by kernel_rfl) (hR "strconv.ErrSyntax" Rows.laid_strconv_ErrSyntax (.tail _ (.tail _ (.tail _ (.tail _ (.tail _ (.head _)))))))
  · exact var_iface glob1 (by kernel_rfl) (hR "strconv.ErrRange" Rows.laid_strconv_ErrRange (.tail _ (.tail _ (.tail _ (.tail _ (.head _))))))
  · exact cell_of_shapedOpen_int (zero := #[.int .i64 0]) (t := 3) hsh (of_decide_eq_true (by kernel_rfl)) (by kernel_rfl) rfl (by kernel_rfl) (by kernel_rfl) Tryz.underlying3
  · obtain ⟨g', t, cs, fuel, p, h1, h2, h3, h4⟩ := hR "math/bits.deBruijn64tab" Rows.laid_math_bits_deBruijn64tab (.tail _ (.head _))
    obtain rfl := Option.some.inj ((show Tryz.prog.globalNamed "math/bits.deBruijn64tab" = some 7 by kernel_rfl).symm.trans h1)
    unfold World.var? at h3
    rw [h1] at h3
    rcases Nat.lt_or_ge 7 w.heap.size with h | h
    · exact h
    · simp [Array.getElem?_eq_none h] at h3
end Go.Proofs.YtckalplhaggaoaaGreatDoor

namespace Go.Proofs.YtckalplhaggaoaaGreatDoor
open Go.ChangeShapes Go.WideShapes Go.ChangeAt Go.RowKit
open Go.ChangeMaps (open_string shut_string)

theorem rowOwn : ownKnob Tryz.prog.godebug = none := by kernel_rfl
theorem rowLaidOut : laidOutB Tryz.prog = true := by kernel_rfl

section
variable {H : Type} {enc : TypeId × Value → H}
theorem returnsInHanded_laid_shaped {a : Assume} {C : Checked} {os : Os} {f : FuncId} {fn : Func} {s : ChangeSpec} {conds : List PathCond} {apart fresh handsOn again : Bool} {X : World → Array Value → Prop}
    (hX : ∀ (w w' : World) (args : Array Value), w.heap = w'.heap → X w args → X w' args)
    (own : ownKnob C.prog.godebug = none) (started : os.Started) (noInit : C.prog.inits.idxOf? f = none) (hfn : C.prog.funcs[f]? = some fn)
    (witness : ∃ (w : World) (tape : Tape) (i : Input), w.os = os ∧ (w.forCall tape i).Shaped C.prog ∧ i.vars = [] ∧ Input.okWide C.prog (w.forCall tape i) .any w.heap.size f i ∧
      ((s.pre enc C.prog fn conds apart (w.forCall tape i).memory i.args ∧ X (w.forCall tape i).memory i.args) ∧ sizedMet enc C.prog fn (OpenSpec.ofChange s) apart (w.forCall tape i).memory i.args) ∧ a.holds C.prog (lone (Frame.enter C.prog f i.args .normal) [] (w.forCall tape i)))
    (contract : ∀ (W : World) (base : Nat) (args : Array Value) (ds gs : List (DataW H)) (before : List MemPlace),
      (∀ (j : Nat) t v, fn.params[j]? = some t → args[j]? = some v → Value.okWide C.prog W .any base t v) →
      DataW.Whole enc C.prog fn.params.toList s.vars apart W args.toList ds gs before →
      (DataW.weightsEach C.prog (fn.params.toList ++ s.plain.varTypes C.prog) (ds ++ gs)).all (· ≤ reachBytes) = true → X W args → W.ShapedOpen C.prog →
      Calls C.prog f args W fun e W' => ∃ v, e = .returned v ∧ s.post enc C.prog fn apart fresh handsOn again W args v W') :
    ReturnsInHanded a C os f .any (fun w args => (s.pre enc C.prog fn conds apart w args ∧ X w args) ∧ sizedMet enc C.prog fn (OpenSpec.ofChange s) apart w args) (s.post enc C.prog fn apart fresh handsOn again) := by
  refine returnsInHanded_of_calls own started noInit witness ?_
  intro w tape i _ hsh _ hok hpre hholds
  obtain ⟨_, _, _, fn', hfn', _, _, _, _, hval⟩ := hok
  have e : fn' = fn := Option.some.inj (hfn'.symm.trans hfn)
  subst e
  obtain ⟨⟨⟨ds, gs, before, hw, hc⟩, hx⟩, hz⟩ := hpre
  have hw' := DataW.Whole.of_heap (w' := w.forCall tape i) (by rfl) hw
  refine (contract (w.forCall tape i) w.heap.size i.args ds gs before hval hw' (hz.weights hw) (hX _ _ _ (by rfl) hx) hsh).mono fun e W' ⟨v, he, hp⟩ => ?_
  subst he
  exact ChangeSpec.post_blind hp
end

def zeroEnt : Value := .agg zero20.toArray
set_option maxRecDepth 100000 in
theorem inputBack_lifted (os : Os) (started : os.Started) (H : Type) (enc : TypeId × Value → H) :
    ReturnsInHanded {} Tryz.checked os 3 .any (fun w args => (Rows.inputBackSpec.pre enc Tryz.prog Tryz.f3 [] false w args ∧ laidMetH Tryz.prog Rows.inputBackRow.laid w) ∧ sizedMet enc Tryz.prog Tryz.f3 (OpenSpec.ofChange Rows.inputBackSpec) false w args)
      (Rows.inputBackSpec.post enc Tryz.prog Tryz.f3 false true false false) := by
  refine returnsInHanded_laid_shaped (C := Tryz.checked) (X := fun w _ => laidMetH Tryz.prog Rows.inputBackRow.laid w) (fun _ _ _ hh h => h.of_heap hh) rowOwn started (by kernel_rfl) Tryz.func3
    (ChangeSpec.witness_shaped (enc := enc) (C := Tryz.checked) (os := os) (X := fun w _ => laidMetH Tryz.prog Rows.inputBackRow.laid w) false (World.laidAll Tryz.prog os Rows.inputBackRow.laid) #[zeroEnt, .string ⟨#[]⟩] 8 (World.laidAll_os _ _ _)
      (World.shaped_of_ZipB (by kernel_rfl) (by kernel_rfl)) (by kernel_rfl) (by kernel_rfl) (by kernel_rfl)
      (by rw [MakeChecks.laidMetH_plain _ _ _ (by kernel_rfl)]; exact laidMet_laidAll _ (by kernel_rfl) (by kernel_rfl))) ?_
  intro W base args ds gs before hval0 hW hsz0 hL hsh
  have hval : ∀ (j : Nat) t v, Tryz.f3.params[j]? = some t → args[j]? = some v → Value.okWide Tryz.prog W .any base t v := hval0
  have hsz : (DataW.weightsEach Tryz.prog (Tryz.f3.params.toList ++ Rows.inputBackSpec.plain.varTypes Tryz.prog) (ds ++ gs)).all (· ≤ reachBytes) = true := hsz0
  have hW' := hW
  obtain ⟨p, q, hA0, hV, rfl, _, _⟩ := hW
  have hA : DataW.TrodAll enc Tryz.prog W 0 (fun _ => true) true Tryz.f3.params.toList args.toList ds p := hA0
  rw [Tryz.params3] at hA hval hsz
  obtain ⟨v0, v1, d0, d1, p0, p1, rfl, rfl, rfl, h0, h1⟩ := trodAll_two hA
  obtain ⟨rfl, rfl⟩ := trodVars_none hV
  obtain ⟨sheet, rfl, rfl, rfl, ws⟩ := open_string Tryz.underlying9 (hval 1 9 v1 rfl rfl) h1
  have hv0 := hval 0 30 v0 rfl rfl
  unfold Value.okWide at hv0
  rw [Tryz.underlying30] at hv0
  obtain ⟨arr, rfl, _, _⟩ := hv0
  have h0k := h0
  obtain ⟨fuel, hf⟩ := h0
  clear hA0 hval0 hsz0
  simp only [List.append_nil] at hW'
  have hlt : ∀ x ∈ p0, x.block < W.heap.size := fun x hx => by simpa using hW'.lt x hx
  have hreach : InReach 30 d0 := fun m hm => by
    have := List.all_eq_true.1 hsz m (DataW.weights_mem_each (j := 0) (t := 30) (d := d0) rfl rfl m hm)
    exact of_decide_eq_true this
  obtain ⟨cell, f, g, v, A, k, c, e, hrd, hv⟩ := open_E hf hreach
  have e' : Value.agg arr = entV ⟨cell, f, g, v⟩ (.slice A k c) := by rw [← e]; simp [Value.cells]
  rw [MakeChecks.laidMetH_plain _ _ _ (by kernel_rfl)] at hL
  have hcall := law_InputBack cell f g v A k c _ sheet W hrd (gl_of hL hsh) ws hv
  rw [← e'] at hcall
  refine hcall.mono fun e W' ⟨he, hb⟩ => ?_
  subst he
  exact ⟨_, rfl, _, _, _, [], _, [], hW', trodAll_mk1 (shut_bool Tryz.underlying4 _),
    trodAll_mk2 (Below.trod rowLaidOut (by kernel_rfl) (of_decide_eq_true (by kernel_rfl)) h0k hb hlt) (shut_string Tryz.underlying9 ws), rfl, hb.frame _, fun h => by cases h⟩
end Go.Proofs.YtckalplhaggaoaaGreatDoor

namespace Go.Proofs.YtckalplhaggaoaaGreatDoor
open Go.ChangeShapes Go.WideShapes Go.ChangeAt Go.RowKit

theorem inputBack_row : Rows.InputBackSaid :=
  OpenClaim.holds_of_wide 3 Tryz.f3 rfl rfl rfl rfl rfl rfl rfl ⟨rfl, rfl, rfl, rfl, rfl⟩ rfl rfl rfl rfl rfl (by kernel_rfl) Tryz.func3 (by kernel_rfl)
    (of_decide_eq_true (by kernel_rfl)) (by unfold Func.isWrapper; first | (rw [if_pos (by decide +kernel)]; kernel_rfl) | (rw [if_neg (by decide +kernel)]; exact ⟨rfl, rfl⟩))
    (fun os started H enc _ => inputBack_lifted os started H enc)
theorem inputBack_holds : Rows.InputBackCardSaid :=
  Claim7.holds_tied_plain_at .later [] [.data, .data, .data, .data, .sentinel, .sentinel, .pinned] true (true, "db6e7b8e9418b9cdf70f85aa0d648631f92c1deeb9a33f1df6352fee1bcd3fa3") true inputBack_row (fun _ h => by cases h) (by kernel_rfl) (fun _ h => by cases h) inputBack_row_tie rfl ⟨rfl, rfl⟩ (by kernel_rfl) rfl
    (fun f fn hf hfn => by
      obtain rfl : f = 3 := Option.some.inj ((show Tryz.prog.funcNamed "abacist/abacistlaw21.InputBack" = some 3 by kernel_rfl).symm.trans hf) |>.symm
      obtain rfl : fn = Tryz.f3 := (Option.some.inj (Tryz.func3.symm.trans hfn)).symm
      exact ⟨by kernel_rfl, fun j t ht => by
        rw [Tryz.params3] at ht
        have hm : t ∈ [30, 9] := by simpa using Array.mem_of_getElem? ht
        have hall : ([30, 9].all fun u => !Tryz.prog.wantsStandIn u) = true := by kernel_rfl
        exact (show Tryz.prog.wantsStandIn t = false by simpa using List.all_eq_true.1 hall t hm)⟩)
    (by kernel_rfl)
end Go.Proofs.YtckalplhaggaoaaGreatDoor
