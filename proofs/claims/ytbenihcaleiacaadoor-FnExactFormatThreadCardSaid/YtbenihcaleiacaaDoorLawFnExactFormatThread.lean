/- The row of the law FnExactFormatThread: for every input that can be read it returns true and leaves its arguments as they were. No condition. -/
import Derived.Test.YtbenihcaleiacaaDoorRows
import Derived.Test.YtbenihcaleiacaaDoorTie
import Derived.Test.YtbenihcaleiacaaDoorCards
import Derived.SevenTiedAt
import Derived.LaidMore
import Derived.MakeChecks
import Derived.Stop.Joined
import Derived.Lib.LaidU8
import Derived.Lib.LaidTab
import Derived.Handed
import Derived.Test.YtbenihcaleiacaaDoorGFnExactFormatThreadx6
import Derived.Test.YtbenihcaleiacaaDoorPureFnExactFormatThread
import Derived.WalkKit
import Derived.ProofKit
import Derived.OpenShut
import Derived.ShutString
import Derived.ChangeOld
import Derived.Below
import Derived.SizedLaws
import Derived.Deep.Fields
import Derived.Deep.Slices
import Derived.Lib.SmallJoins
set_option linter.unusedVariables false
set_option linter.unusedSimpArgs false
namespace Go.Proofs.YtbenihcaleiacaaDoor.fnExactFormatThread
open Go.ChangeShapes Go.WideShapes Go.ChangeAt Go.RowKit Go.Deep Go.Proofs.YtbenihcaleiacaaDoorW.PrintWords
open Go.ChangeMaps (open_string shut_string)
section
variable {H : Type} {enc : TypeId × Value → H} {P : Program} {w : World} {base : Nat} {spare : Nat → Bool} {held : Bool}
theorem ints_of_trod {t e : TypeId} {fs : Array Field} {fuel : Nat} {cs : List Value} {x : DataW H × List MemPlace} (hs : P.underlying t = some (.struct fs)) (hone : oneCellFields P fs = true) (hC : P.cellsOf t = fs.size)
    (m : Nat) (hm : fs.size = m) (he : P.underlying e = some (.int .i64)) (hk : (fs.toList.all fun f => f.type == e) = true) (h : DataW.trod enc P w base spare held fuel t cs = some x) :
    ∃ xs : List Int, cs = xs.map (fun x => Value.int .i64 x) ∧ xs.length = m ∧ ∀ x ∈ xs, (Lit.int .i64 x).wf = true := by
  subst hm
  obtain ⟨ys, n, _, _, hcl, hlen, hg⟩ := DataW.trod_struct hs h
  have key : ∀ i (hi : i < cs.length), ∃ z : Int, cs[i] = .int .i64 z ∧ (Lit.int .i64 z).wf = true := by
    intro i hi
    have hi' : i < fs.size := by omega
    have hfi : fs[i]? = some fs[i] := Array.getElem?_eq_getElem hi'
    obtain ⟨ho, hk1⟩ := hone_of hone i _ hfi
    have hg1 := hg i _ hfi
    have hty : fs[i].type = e := by
      have := List.all_eq_true.1 hk fs[i] (Array.getElem_mem_toList hi')
      simpa using this
    rw [ho, hk1, hty] at hg1
    obtain ⟨y, hy⟩ : ∃ y, ys[i]? = some y := ⟨_, List.getElem?_eq_getElem (by omega)⟩
    rw [hy] at hg1
    obtain ⟨z, hz, _, hw⟩ := DataW.trod_int he hg1
    refine ⟨z, ?_, hw⟩
    have e2 : (cs.drop i).take 1 = [cs[i]] := by
      rw [List.drop_eq_getElem_cons hi, List.take_succ_cons, List.take_zero]
    rw [e2] at hz
    injection hz
  refine ⟨cs.map fun v => match v with | .int _ z => z | _ => 0, ?_, by simp; omega, ?_⟩
  · rw [List.map_map]
    apply List.ext_getElem
    · simp
    · intro i h1 h2
      obtain ⟨z, hz, _⟩ := key i h1
      simp [hz]
  · intro x hx
    obtain ⟨v, hv, rfl⟩ := List.mem_map.1 hx
    obtain ⟨i, hi, rfl⟩ := List.getElem_of_mem hv
    obtain ⟨z, hz, hw⟩ := key i hi
    simp only [hz]
    exact hw
theorem ints_of_struct {r : Reach} {b0 : Nat} {t e : TypeId} {fs : Array Field} {v : Value} {d : DataW H} {p : List MemPlace} (hs : P.underlying t = some (.struct fs)) (hone : oneCellFields P fs = true) (hC : P.cellsOf t = fs.size)
    (m : Nat) (hm : fs.size = m) (he : P.underlying e = some (.int .i64)) (hk : (fs.toList.all fun f => f.type == e) = true) (hv : Value.okWide P w r b0 t v) (h : DataW.Trod enc P w base spare held t v d p) :
    ∃ xs : List Int, v = .agg (xs.map fun x => Value.int .i64 x).toArray ∧ xs.length = m ∧ ∀ x ∈ xs, (Lit.int .i64 x).wf = true := by
  obtain ⟨cs, rfl, hsz⟩ := okWide_struct hs hv
  obtain ⟨fuel, hf⟩ := h
  obtain ⟨xs, hx, hl, hw⟩ := ints_of_trod hs hone hC m hm he hk hf
  refine ⟨xs, ?_, hl, hw⟩
  rw [← hx]
  simp [Value.cells]
theorem opens_int {e : TypeId} {k : IntKind} (he : P.underlying e = some (.int k)) (fuel : Nat) (cs : List Value) (x : DataW H × List MemPlace) (h : DataW.trod enc P w base spare held fuel e cs = some x) : ∃ a : Int, (Kd.int k).K w a cs ∧ (Lit.int k a).wf = true := by
  obtain ⟨n, rfl, _, hw⟩ := DataW.trod_int he h
  exact ⟨n, rfl, hw⟩
theorem list_all {α : Type} {Q : Nat → α → Prop} : ∀ n : Nat, (∀ i, i < n → ∃ x, Q i x) → ∃ xs : List α, xs.length = n ∧ ∀ i x, xs[i]? = some x → Q i x
  | 0, _ => ⟨[], rfl, fun i x h => by simp at h⟩
  | n + 1, h => by
    obtain ⟨xs, hl, hq⟩ := list_all n (fun i hi => h i (by omega))
    obtain ⟨y, hy⟩ := h n (by omega)
    refine ⟨xs ++ [y], by simp [hl], fun i x hx => ?_⟩
    rcases Nat.lt_or_ge i xs.length with hi | hi
    · rw [List.getElem?_append_left hi] at hx
      exact hq i x hx
    · rw [List.getElem?_append_right hi] at hx
      have : i - xs.length = 0 := by
        rcases Nat.eq_zero_or_pos (i - xs.length) with h0 | h0
        · exact h0
        · rw [List.getElem?_eq_none (by simp; omega)] at hx
          cases hx
      rw [this] at hx
      simp at hx
      subst hx
      rw [show i = n by omega]
      exact hy
theorem C_of_slice {α : Type} (d : Kd α) (wfp : α → Prop) {t e : TypeId} {A : Option Addr} {n c : Nat} {d' : DataW H} {p : List MemPlace} (ht : P.underlying t = some (.slice e)) (hsz : P.cellsOf e = d.sz)
    (hopen : ∀ (fuel : Nat) (cs : List Value) (x : DataW H × List MemPlace), DataW.trod enc P w base spare held fuel e cs = some x → ∃ a, d.K w a cs ∧ wfp a) (h : DataW.Trod enc P w base spare held t (.slice A n c) d' p) :
    n ≤ c ∧ n ≤ maxLen ∧ ∃ xs : List α, xs.length = n ∧ (∀ a ∈ xs, wfp a) ∧ d.C w A n xs := by
  obtain ⟨fuel, hf⟩ := h
  rcases open_slice ht hf with ⟨h0, _⟩ | ⟨a, len, cap, m, f2, D, Pl, hcs, _, hl, hm, hmm, _, hi⟩
  · simp [Value.cells] at h0
    obtain ⟨rfl, rfl, rfl⟩ := h0
    exact ⟨Nat.le_refl _, Nat.zero_le _, [], rfl, fun _ h => by simp at h, rfl, by omega, fun h => by omega⟩
  · simp [Value.cells] at hcs
    obtain ⟨rfl, rfl, rfl⟩ := hcs
    have hnm : n ≤ m := by rw [hmm]; split <;> omega
    obtain ⟨xs, hxl, hq⟩ := list_all (Q := fun i x => wfp x ∧ ∃ cs', cs'.length = d.sz ∧ d.K w x cs' ∧ ∀ j u, cs'[j]? = some u → w.cell? (a.add (i * d.sz + j)) = some u) n (fun i hin => by
      obtain ⟨cs', hc, ht'⟩ := hi i (by omega)
      obtain ⟨x, hK, hw⟩ := hopen _ _ _ ht'
      obtain ⟨_, hcl, hat⟩ := World.cells?_some hc
      refine ⟨x, hw, cs', by rw [hcl, hsz], hK, fun j u hu => ?_⟩
      have hj : j < cs'.length := (List.getElem?_eq_some_iff.1 hu).1
      have := hat j (by omega)
      rw [hu, hsz] at this
      rw [← Go.Deep.add_add]
      exact this)
    unfold maxLen at hm
    refine ⟨hl, by unfold maxLen; omega, xs, hxl, fun x hx => ?_, hxl, by omega, fun _ => ⟨a, rfl, fun j p hj => ?_⟩⟩
    · obtain ⟨i, hi', rfl⟩ := List.getElem_of_mem hx
      exact (hq i _ (List.getElem?_eq_getElem hi')).1
    · obtain ⟨_, cs', h1, h2, h3⟩ := hq j p hj
      exact ⟨cs', h1, h2, h3⟩
theorem struct_parts {r : Reach} {b0 : Nat} {t : TypeId} {fs : Array Field} {v : Value} {d : DataW H} {p : List MemPlace} (hs : P.underlying t = some (.struct fs)) (m : Nat) (hC : P.cellsOf t = m) (hv : Value.okWide P w r b0 t v) (h : DataW.Trod enc P w base spare held t v d p) :
    ∃ cs : List Value, v = .agg cs.toArray ∧ cs.length = m ∧ ∀ (i : Nat) (f : Field), fs[i]? = some f → ∃ n y, DataW.trod enc P w base spare held n f.type ((cs.drop f.offset).take (P.cellsOf f.type)) = some y := by
  obtain ⟨cs, rfl, hsz⟩ := okWide_struct hs hv
  obtain ⟨fuel, hf⟩ := h
  obtain ⟨ys, n, _, _, hcl, hlen, hg⟩ := DataW.trod_struct hs hf
  refine ⟨_, ?_, hcl.trans hC, fun i f hi => ?_⟩
  · simp [Value.cells]
  · have hlt : i < fs.size := (Array.getElem?_eq_some_iff.1 hi).1
    have := hg i f hi
    rw [List.getElem?_eq_getElem (show i < ys.length by omega)] at this
    exact ⟨n, _, this⟩
theorem field_at {cs : List Value} {fs : Array Field} (fd : ∀ (i : Nat) (f : Field), fs[i]? = some f → ∃ n y, DataW.trod enc P w base spare held n f.type ((cs.drop f.offset).take (P.cellsOf f.type)) = some y)
    (i off sz : Nat) (ft : TypeId) (hi : (fs[i]?).map (fun f => (f.offset, f.type)) = some (off, ft)) (hz : P.cellsOf ft = sz) (part : List Value) (hp : (cs.drop off).take sz = part) : ∃ n y, DataW.trod enc P w base spare held n ft part = some y := by
  cases hf : fs[i]? with
  | none => rw [hf] at hi; cases hi
  | some f =>
    rw [hf] at hi
    simp only [Option.map_some, Option.some.injEq, Prod.mk.injEq] at hi
    obtain ⟨rfl, rfl⟩ := hi
    obtain ⟨n, y, h⟩ := fd i f hf
    rw [hz, hp] at h
    exact ⟨n, y, h⟩
theorem int_field {e : TypeId} (he : P.underlying e = some (.int .i64)) {c : Value} (h : ∃ n y, DataW.trod enc P w base spare held n e [c] = some y) : ∃ z : Int, c = .int .i64 z ∧ (Lit.int .i64 z).wf = true := by
  obtain ⟨n, y, h⟩ := h
  obtain ⟨z, hz, _, hw⟩ := DataW.trod_int he h
  injection hz with hz
  exact ⟨z, hz, hw⟩
theorem slice_field {t e : TypeId} (ht : P.underlying t = some (.slice e)) {c : Value} (h : ∃ n y, DataW.trod enc P w base spare held n t [c] = some y) : ∃ (A : Option Addr) (len cap : Nat) (d : DataW H) (p : List MemPlace), c = .slice A len cap ∧ DataW.Trod enc P w base spare held t (.slice A len cap) d p := by
  obtain ⟨n, y, h⟩ := h
  have h' := h
  rcases DataW.trod_slice ht h with ⟨hc, _⟩ | ⟨a, len, cap, _, _, _, _, hc, _⟩
  · injection hc with hc
    subst hc
    exact ⟨none, 0, 0, y.1, y.2, rfl, n, h'⟩
  · injection hc with hc
    subst hc
    exact ⟨some a, len, cap, y.1, y.2, rfl, n, h'⟩
theorem list2 {α : Type} {xs : List α} (h : xs.length = 2) : ∃ a0 a1, xs = [a0, a1] := by
  match xs, h with
  | [a0, a1], _ => exact ⟨a0, a1, rfl⟩
theorem list3 {α : Type} {xs : List α} (h : xs.length = 3) : ∃ a0 a1 a2, xs = [a0, a1, a2] := by
  match xs, h with
  | [a0, a1, a2], _ => exact ⟨a0, a1, a2, rfl⟩
theorem list4 {α : Type} {xs : List α} (h : xs.length = 4) : ∃ a0 a1 a2 a3, xs = [a0, a1, a2, a3] := by
  match xs, h with
  | [a0, a1, a2, a3], _ => exact ⟨a0, a1, a2, a3, rfl⟩
theorem list19 {α : Type} {xs : List α} (h : xs.length = 19) : ∃ a0 a1 a2 a3 a4 a5 a6 a7 a8 a9 a10 a11 a12 a13 a14 a15 a16 a17 a18, xs = [a0, a1, a2, a3, a4, a5, a6, a7, a8, a9, a10, a11, a12, a13, a14, a15, a16, a17, a18] := by
  match xs, h with
  | [a0, a1, a2, a3, a4, a5, a6, a7, a8, a9, a10, a11, a12, a13, a14, a15, a16, a17, a18], _ => exact ⟨a0, a1, a2, a3, a4, a5, a6, a7, a8, a9, a10, a11, a12, a13, a14, a15, a16, a17, a18, rfl⟩
end
section
variable {H : Type} {enc : TypeId × Value → H} {w : World} {base : Nat} {spare : Nat → Bool} {held : Bool}
def wf37 (x : GFnExactFormatThread.S37) : Prop := (Lit.int .i64 x.f0).wf = true ∧ (Lit.int .i64 x.f1).wf = true ∧ (Lit.int .i64 x.f2).wf = true ∧ (Lit.int .i64 x.f3).wf = true
theorem opens37 (fuel : Nat) (cs : List Value) (x : DataW H × List MemPlace) (h : DataW.trod enc Tryd.prog w base spare held fuel 37 cs = some x) : ∃ a : GFnExactFormatThread.S37, GFnExactFormatThread.k37.K w a cs ∧ wf37 a := by
  obtain ⟨zs, rfl, hl, hw⟩ := ints_of_trod Tryd.underlying37 (by kernel_rfl) (by kernel_rfl) 4 (by kernel_rfl) Tryd.underlying3 (by kernel_rfl) h
  obtain ⟨a0, a1, a2, a3, rfl⟩ := list4 hl
  exact ⟨⟨a0, a1, a2, a3⟩, GFnExactFormatThread.k37_mk w _, hw a0 (by simp), hw a1 (by simp), hw a2 (by simp), hw a3 (by simp)⟩
end
/-- The wrap: what the row lists and the world's shape reach the contract. -/
theorem wrap {H : Type} {enc : TypeId × Value → H} {C : Checked} {os : Os} {f : FuncId} {fn : Func} {s : ChangeSpec} {conds : List PathCond} {apart fresh handsOn again : Bool} {X : World → Array Value → Prop}
    (hX : ∀ (w w' : World) (args : Array Value), w.heap = w'.heap → X w args → X w' args)
    (own : ownKnob C.prog.godebug = none) (started : os.Started) (noInit : C.prog.inits.idxOf? f = none) (hfn : C.prog.funcs[f]? = some fn)
    (witness : ∃ (w : World) (tape : Tape) (i : Input), w.os = os ∧ (w.forCall tape i).Shaped C.prog ∧ i.vars = [] ∧ Input.okWide C.prog (w.forCall tape i) .any w.heap.size f i ∧
      ((s.pre enc C.prog fn conds apart (w.forCall tape i).memory i.args ∧ X (w.forCall tape i).memory i.args) ∧ sizedMet enc C.prog fn (OpenSpec.ofChange s) apart (w.forCall tape i).memory i.args) ∧ ({} : Assume).holds C.prog (lone (Frame.enter C.prog f i.args .normal) [] (w.forCall tape i)))
    (contract : ∀ (W : World) (base : Nat) (args : Array Value) (ds gs : List (DataW H)) (before : List MemPlace),
      (∀ (j : Nat) t v, fn.params[j]? = some t → args[j]? = some v → Value.okWide C.prog W .any base t v) →
      DataW.Whole enc C.prog fn.params.toList s.vars apart W args.toList ds gs before →
      (DataW.weightsEach C.prog (fn.params.toList ++ s.plain.varTypes C.prog) (ds ++ gs)).all (· ≤ reachBytes) = true → X W args → W.ShapedOpen C.prog →
      Calls C.prog f args W fun e W' => ∃ v, e = .returned v ∧ s.post enc C.prog fn apart fresh handsOn again W args v W') :
    ReturnsInHanded {} C os f .any (fun w args => (s.pre enc C.prog fn conds apart w args ∧ X w args) ∧ sizedMet enc C.prog fn (OpenSpec.ofChange s) apart w args) (s.post enc C.prog fn apart fresh handsOn again) := by
  refine returnsInHanded_of_calls own started noInit witness ?_
  intro w tape i _ hsh _ hok hpre _
  obtain ⟨_, _, _, fn', hfn', _, _, _, _, hval⟩ := hok
  have e : fn' = fn := Option.some.inj (hfn'.symm.trans hfn)
  subst e
  obtain ⟨⟨⟨ds, gs, before, hw, _⟩, hx⟩, hz⟩ := hpre
  refine (contract (w.forCall tape i) w.heap.size i.args ds gs before hval (DataW.Whole.of_heap (w' := w.forCall tape i) (by rfl) hw) (hz.weights hw) (hX _ _ _ (by rfl) hx) hsh).mono fun e W' ⟨v, he, hp⟩ => ?_
  subst he
  exact ChangeSpec.post_blind hp
theorem tab_of {l : List (String × DataW Unit)} {W : World} (hL : laidMet Tryd.prog l W) (hm : ("internal/strconv.uint64pow10", Rows.laid_internal_strconv_uint64pow10) ∈ l) : Lib.TabIs Tryd.prog W "internal/strconv.uint64pow10" .u64 Lib.pow10Tab := by
  obtain ⟨g, t, cs, fuel, p, hg, ht, hvar, hd⟩ := Lib.laidMet.reads hL hm
  obtain rfl := Option.some.inj ((show Tryd.prog.globalNamed "internal/strconv.uint64pow10" = some 0 by kernel_rfl).symm.trans hg)
  obtain rfl := Option.some.inj ((show (Tryd.prog.globals[0]?).map (·.type) = some 132 by kernel_rfl).symm.trans ht)
  have e : (Rows.laid_internal_strconv_uint64pow10 : DataW Unit) = Lib.tabData .u64 Lib.pow10Tab := rfl
  rw [e] at hd
  unfold Lib.TabIs
  rw [hvar, ← Lib.cells_of_tab Tryd.underlying132 Tryd.underlying123 (by kernel_rfl) (by kernel_rfl) hd]
theorem fit_of {W : World} (hL0 : laidMetH Tryd.prog Rows.fnExactFormatThreadRow.laid W) (hsh : W.ShapedOpen Tryd.prog) : GFnExactFormatThread.Fit W := by
  have hL : laidMet Tryd.prog Rows.fnExactFormatThreadRow.laid W := by rw [← MakeChecks.laidMetH_plain _ _ _ (by kernel_rfl)]; exact hL0
  exact tab_of hL (.tail _ (.tail _ (.head _)))
theorem door_met (os : Os) (args : Array Value) : laidMetH Tryd.prog Rows.fnExactFormatThreadRow.laid ((World.doorLaid Tryd.prog 400 os).forCall (fun _ _ => 0) ⟨#[], args, []⟩).memory :=
  laidMetH_of_parts3 (fuel := 8) (laidMet_of_run' 8 (by kernel_rfl) (by kernel_rfl)) (by kernel_rfl) (by kernel_rfl)
theorem own : ownKnob Tryd.prog.godebug = none := by kernel_rfl
theorem laidOut : laidOutB Tryd.prog = true := by kernel_rfl
set_option maxRecDepth 100000 in
theorem lifted (os : Os) (started : os.Started) (H : Type) (enc : TypeId × Value → H) :
    ReturnsInHanded {} Tryd.checked os 10 .any (fun w args => (Rows.fnExactFormatThreadSpec.pre enc Tryd.prog Tryd.f10 [] false w args ∧ laidMetH Tryd.prog Rows.fnExactFormatThreadRow.laid w) ∧ sizedMet enc Tryd.prog Tryd.f10 (OpenSpec.ofChange Rows.fnExactFormatThreadSpec) false w args) (Rows.fnExactFormatThreadSpec.post enc Tryd.prog Tryd.f10 false true false false) := by
  refine wrap (C := Tryd.checked) (X := (fun w _ => laidMetH Tryd.prog Rows.fnExactFormatThreadRow.laid w)) (fun _ _ _ hh h => h.of_heap hh) own started (by kernel_rfl) Tryd.func10
    (ChangeSpec.witness_shaped (enc := enc) (C := Tryd.checked) (os := os) (X := (fun w _ => laidMetH Tryd.prog Rows.fnExactFormatThreadRow.laid w)) false (World.doorLaid Tryd.prog 400 os) #[.agg #[.int .i64 0, .int .i64 0, .int .i64 0, .int .i64 0, .int .i64 0, .int .i64 0, .int .i64 0, .int .i64 0, .int .i64 0, .int .i64 0, .int .i64 0, .int .i64 0, .int .i64 0, .int .i64 0, .slice none 0 0, .slice none 0 0, .slice none 0 0, .slice none 0 0, .slice none 0 0]] 8 rfl (World.shaped_of_RefB (by kernel_rfl) (by kernel_rfl)) (by kernel_rfl) (by kernel_rfl) (by kernel_rfl) (door_met os _)) ?_
  intro W base args ds gs before hval0 hW hsz0 hL hsh
  have hF := fit_of hL hsh
  have hsz : (DataW.weightsEach Tryd.prog (Tryd.f10.params.toList ++ Rows.fnExactFormatThreadSpec.plain.varTypes Tryd.prog) (ds ++ gs)).all (· ≤ reachBytes) = true := hsz0
  have hval : ∀ (j : Nat) t v, Tryd.f10.params[j]? = some t → args[j]? = some v → Value.okWide Tryd.prog W .any base t v := hval0
  have hW' := hW
  obtain ⟨p, q, hA0, hV, rfl, hfz, hnd⟩ := hW
  have hA : DataW.TrodAll enc Tryd.prog W 0 (fun _ => true) true Tryd.f10.params.toList args.toList ds p := hA0
  rw [Tryd.params10] at hA hval hsz
  obtain ⟨v0, vs0, d0, ds0, p0, q0, hargs, rfl, rfl, h0, r0⟩ := trodAll_cons hA
  obtain ⟨rfl, rfl, rfl⟩ := trodAll_nil r0
  obtain rfl : args = #[v0] := by cases args; simp_all
  obtain ⟨rfl, rfl⟩ := trodVars_none hV
  have k0 := h0
  have lt0 : ∀ x ∈ p0, x.block < W.heap.size := by obtain ⟨m, hm⟩ := k0; exact DataW.trod_lt m _ _ _ hm
  obtain ⟨cs0, rfl, len0, fd0⟩ := struct_parts Tryd.underlying58 19 (by kernel_rfl) (hval 0 58 v0 rfl rfl) h0
  obtain ⟨c0_0, c0_1, c0_2, c0_3, c0_4, c0_5, c0_6, c0_7, c0_8, c0_9, c0_10, c0_11, c0_12, c0_13, c0_14, c0_15, c0_16, c0_17, c0_18, rfl⟩ := list19 len0
  obtain ⟨a0_0, e0_0, w0_0⟩ := int_field (c := c0_0) Tryd.underlying3 (field_at fd0 0 0 1 3 rfl (by kernel_rfl) [c0_0] rfl)
  obtain ⟨fn0_1, fy0_1, ft0_1⟩ := (field_at fd0 1 1 3 31 rfl (by kernel_rfl) [c0_1, c0_2, c0_3] rfl)
  obtain ⟨zs0_1, ez0_1, el0_1, ew0_1⟩ := ints_of_trod Tryd.underlying31 (by kernel_rfl) (by kernel_rfl) 3 (by kernel_rfl) Tryd.underlying3 (by kernel_rfl) ft0_1
  obtain ⟨a0_1, a0_2, a0_3, rfl⟩ := list3 el0_1
  simp only [List.map_cons, List.map_nil, List.cons.injEq, and_true] at ez0_1
  obtain ⟨e0_1, e0_2, e0_3⟩ := ez0_1
  have w0_1 := ew0_1 a0_1 (by simp)
  have w0_2 := ew0_1 a0_2 (by simp)
  have w0_3 := ew0_1 a0_3 (by simp)
  obtain ⟨fn0_4, fy0_4, ft0_4⟩ := (field_at fd0 2 4 2 25 rfl (by kernel_rfl) [c0_4, c0_5] rfl)
  obtain ⟨zs0_4, ez0_4, el0_4, ew0_4⟩ := ints_of_trod Tryd.underlying25 (by kernel_rfl) (by kernel_rfl) 2 (by kernel_rfl) Tryd.underlying3 (by kernel_rfl) ft0_4
  obtain ⟨a0_4, a0_5, rfl⟩ := list2 el0_4
  simp only [List.map_cons, List.map_nil, List.cons.injEq, and_true] at ez0_4
  obtain ⟨e0_4, e0_5⟩ := ez0_4
  have w0_4 := ew0_4 a0_4 (by simp)
  have w0_5 := ew0_4 a0_5 (by simp)
  obtain ⟨a0_6, e0_6, w0_6⟩ := int_field (c := c0_6) Tryd.underlying3 (field_at fd0 3 6 1 3 rfl (by kernel_rfl) [c0_6] rfl)
  obtain ⟨a0_7, e0_7, w0_7⟩ := int_field (c := c0_7) Tryd.underlying3 (field_at fd0 4 7 1 3 rfl (by kernel_rfl) [c0_7] rfl)
  obtain ⟨a0_8, e0_8, w0_8⟩ := int_field (c := c0_8) Tryd.underlying3 (field_at fd0 5 8 1 3 rfl (by kernel_rfl) [c0_8] rfl)
  obtain ⟨a0_9, e0_9, w0_9⟩ := int_field (c := c0_9) Tryd.underlying3 (field_at fd0 6 9 1 3 rfl (by kernel_rfl) [c0_9] rfl)
  obtain ⟨a0_10, e0_10, w0_10⟩ := int_field (c := c0_10) Tryd.underlying3 (field_at fd0 7 10 1 3 rfl (by kernel_rfl) [c0_10] rfl)
  obtain ⟨a0_11, e0_11, w0_11⟩ := int_field (c := c0_11) Tryd.underlying3 (field_at fd0 8 11 1 3 rfl (by kernel_rfl) [c0_11] rfl)
  obtain ⟨a0_12, e0_12, w0_12⟩ := int_field (c := c0_12) Tryd.underlying3 (field_at fd0 9 12 1 3 rfl (by kernel_rfl) [c0_12] rfl)
  obtain ⟨a0_13, e0_13, w0_13⟩ := int_field (c := c0_13) Tryd.underlying3 (field_at fd0 10 13 1 3 rfl (by kernel_rfl) [c0_13] rfl)
  obtain ⟨A0_14, n0_14, cap0_14, dd0_14, pp0_14, e0_14, T0_14⟩ := slice_field (c := c0_14) Tryd.underlying55 (field_at fd0 11 14 1 55 rfl (by kernel_rfl) [c0_14] rfl)
  obtain ⟨hc0_14, hm0_14, l0_14, hl0_14, hw0_14, hr0_14⟩ := C_of_slice (Kd.int .i64) (fun z => (Lit.int .i64 z).wf = true) Tryd.underlying55 (by kernel_rfl) (fun fuel cs x hx => opens_int Tryd.underlying3 fuel cs x hx) T0_14
  subst hl0_14
  obtain ⟨A0_15, n0_15, cap0_15, dd0_15, pp0_15, e0_15, T0_15⟩ := slice_field (c := c0_15) Tryd.underlying55 (field_at fd0 12 15 1 55 rfl (by kernel_rfl) [c0_15] rfl)
  obtain ⟨hc0_15, hm0_15, l0_15, hl0_15, hw0_15, hr0_15⟩ := C_of_slice (Kd.int .i64) (fun z => (Lit.int .i64 z).wf = true) Tryd.underlying55 (by kernel_rfl) (fun fuel cs x hx => opens_int Tryd.underlying3 fuel cs x hx) T0_15
  subst hl0_15
  obtain ⟨A0_16, n0_16, cap0_16, dd0_16, pp0_16, e0_16, T0_16⟩ := slice_field (c := c0_16) Tryd.underlying56 (field_at fd0 13 16 1 56 rfl (by kernel_rfl) [c0_16] rfl)
  obtain ⟨hc0_16, hm0_16, l0_16, hl0_16, hw0_16, hr0_16⟩ := C_of_slice GFnExactFormatThread.k37 wf37 Tryd.underlying56 (by kernel_rfl) (fun fuel cs x hx => opens37 fuel cs x hx) T0_16
  subst hl0_16
  obtain ⟨A0_17, n0_17, cap0_17, dd0_17, pp0_17, e0_17, T0_17⟩ := slice_field (c := c0_17) Tryd.underlying56 (field_at fd0 14 17 1 56 rfl (by kernel_rfl) [c0_17] rfl)
  obtain ⟨hc0_17, hm0_17, l0_17, hl0_17, hw0_17, hr0_17⟩ := C_of_slice GFnExactFormatThread.k37 wf37 Tryd.underlying56 (by kernel_rfl) (fun fuel cs x hx => opens37 fuel cs x hx) T0_17
  subst hl0_17
  obtain ⟨A0_18, n0_18, cap0_18, dd0_18, pp0_18, e0_18, T0_18⟩ := slice_field (c := c0_18) Tryd.underlying55 (field_at fd0 15 18 1 55 rfl (by kernel_rfl) [c0_18] rfl)
  obtain ⟨hc0_18, hm0_18, l0_18, hl0_18, hw0_18, hr0_18⟩ := C_of_slice (Kd.int .i64) (fun z => (Lit.int .i64 z).wf = true) Tryd.underlying55 (by kernel_rfl) (fun fuel cs x hx => opens_int Tryd.underlying3 fuel cs x hx) T0_18
  subst hl0_18
  subst e0_0 e0_1 e0_2 e0_3 e0_4 e0_5 e0_6 e0_7 e0_8 e0_9 e0_10 e0_11 e0_12 e0_13 e0_14 e0_15 e0_16 e0_17 e0_18
  clear hA0 hval0 hsz0
  obtain ⟨k, hp⟩ := Pure.FnExactFormatThread a0_0 a0_1 a0_2 a0_3 a0_4 a0_5 a0_6 a0_7 a0_8 a0_9 a0_10 a0_11 a0_12 a0_13 l0_14 l0_15 l0_16 l0_17 l0_18 w0_0 w0_1 w0_2 w0_3 w0_4 w0_5 w0_6 w0_7 w0_8 w0_9 w0_10 w0_11 w0_12 w0_13 hm0_14 hw0_14 hm0_15 hw0_15 hm0_16 hw0_16 hm0_17 hw0_17 hm0_18 hw0_18
  refine (GFnExactFormatThread.laws_FnExactFormatThread.calls k a0_0 a0_1 a0_2 a0_3 a0_4 a0_5 a0_6 a0_7 a0_8 a0_9 a0_10 a0_11 a0_12 a0_13 A0_14 cap0_14 l0_14 A0_15 cap0_15 l0_15 A0_16 cap0_16 l0_16 A0_17 cap0_17 l0_17 A0_18 cap0_18 l0_18 true W hr0_14 hc0_14 hr0_15 hc0_15 hr0_16 hc0_16 hr0_17 hc0_17 hr0_18 hc0_18 hF hp).mono ?_
  rintro e W' ⟨rfl, bel0⟩
  have bel : Below W.heap.size W W' := by first | exact bel0 | exact bel0.below
  exact ⟨_, rfl, _, _, _, [], _, [], hW', trodAll_mk1 (shut_bool Tryd.underlying4 _), (trodAll_cons_mk (Below.trod laidOut (by kernel_rfl) (of_decide_eq_true (by kernel_rfl)) k0 bel lt0) trodAll_mk0), rfl, bel.frame _, fun h => by cases h⟩
theorem over : Rows.fnExactFormatThreadRow.holds Tryd.pinned (OpenSpec.ofChange Rows.fnExactFormatThreadSpec) :=
  OpenClaim.holds_of_wide 10 Tryd.f10 rfl rfl rfl rfl rfl rfl rfl ⟨rfl, rfl, rfl, rfl, rfl⟩ rfl rfl rfl rfl rfl (by kernel_rfl) Tryd.func10 (by kernel_rfl)
    (of_decide_eq_true (by kernel_rfl)) (by unfold Func.isWrapper; first | (rw [if_pos (by decide +kernel)]; kernel_rfl) | (rw [if_neg (by decide +kernel)]; exact ⟨rfl, rfl⟩))
    (fun os started H enc _ => lifted os started H enc)
theorem proved : Rows.FnExactFormatThreadSaid := over
/-- The tied card. -/
theorem tiedCard : Rows.FnExactFormatThreadCardSaid :=
  Claim7.holds_tied_plain_at .later [] [.data, .data, .data] true (true, "09f36af9861a7a105113438f9fffb6cf80a57997f887bb0ee1182d51fc51ef71") false proved (fun _ h => by cases h) (by kernel_rfl) (fun _ h => by cases h) fnExactFormatThread_row_tie rfl ⟨rfl, rfl⟩ (by kernel_rfl) rfl
    (fun f fn hf hfn => by
      obtain rfl : f = 10 := Option.some.inj ((show Tryd.prog.funcNamed "loop.example/g01628/laws.FnExactFormatThread" = some 10 by kernel_rfl).symm.trans hf) |>.symm
      obtain rfl : fn = Tryd.f10 := (Option.some.inj (Tryd.func10.symm.trans hfn)).symm
      exact ⟨by kernel_rfl, fun j t ht => by
        rw [Tryd.params10] at ht
        have hm : t ∈ [58] := by simpa using Array.mem_of_getElem? ht
        have hall : ([58].all fun u => !Tryd.prog.wantsStandIn u) = true := by kernel_rfl
        exact (show Tryd.prog.wantsStandIn t = false by simpa using List.all_eq_true.1 hall t hm)⟩)
    (by kernel_rfl)
#print axioms tiedCard
end Go.Proofs.YtbenihcaleiacaaDoor.fnExactFormatThread
namespace Go.Proofs.YtbenihcaleiacaaDoor
/-- The row, under a short name, for the claim. -/
theorem fnExactFormatThread_holds : Rows.FnExactFormatThreadCardSaid := fnExactFormatThread.tiedCard
end Go.Proofs.YtbenihcaleiacaaDoor
