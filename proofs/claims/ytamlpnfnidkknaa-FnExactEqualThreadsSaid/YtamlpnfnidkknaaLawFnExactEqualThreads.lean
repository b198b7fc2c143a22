/- The row of the law FnExactEqualThreads: for every input that can be read it returns true and leaves its arguments as they were. No condition. -/
import Derived.Test.YtamlpnfnidkknaaRows
import Derived.Test.YtamlpnfnidkknaaGFnExactEqualThreadsx9
import Derived.Test.YtamlpnfnidkknaaPureFnExactEqualThreads
import Derived.WalkKit
import Derived.ProofKit
import Derived.OpenShut
import Derived.ShutString
import Derived.ChangeOld
import Derived.Below
import Derived.SizedLaws
import Derived.Deep.Fields
import Derived.Deep.Slices
import Derived.Lib.SmallJoins
import Derived.Test.YtamlpnfnidkknaaVFnExactEqualThreadsSized
set_option linter.unusedVariables false
set_option linter.unusedSimpArgs false
namespace Go.Proofs.Ytamlpnfnidkknaa.fnExactEqualThreads
open Go.ChangeShapes Go.WideShapes Go.ChangeAt Go.RowKit Go.Deep Go.Proofs.YtamlpnfnidkknaaW.PrintWords
open Go.ChangeMaps (open_string shut_string)
section
variable {H : Type} {enc : TypeId × Value → H} {P : Program} {w : World} {base : Nat} {spare : Nat → Bool} {held : Bool}
theorem ints_of_trod {t e : TypeId} {fs : Array Field} {fuel : Nat} {cs : List Value} {x : DataW H × List MemPlace} (hs : P.underlying t = some (.struct fs)) (hone : oneCellFields P fs = true) (hC : P.cellsOf t = fs.size)
    (m : Nat) (hm : fs.size = m) (he : P.underlying e = some (.int .i64)) (hk : (fs.toList.all fun f => f.type == e) = true) (h : DataW.trod enc P w base spare held fuel t cs = some x) :
    ∃ xs : List Int, cs = xs.map (fun x => Value.int .i64 x) ∧ xs.length = m ∧ ∀ x ∈ xs, (Lit.int .i64 x).wf = true := by
  subst hm
  obtain ⟨ys, n, _, _, hcl, hlen, hg⟩ := DataW.trod_struct hs h
  have key : ∀ i (hi : i < cs.length), ∃ z : Int, cs[i] = .int .i64 z ∧ (Lit.int .i64 z).wf = true := by
    intro i hi
    have hi' : i < fs.size := by omega
    have hfi : fs[i]? = some fs[i] := Array.getElem?_eq_getElem hi'
    obtain ⟨ho, hk1⟩ := hone_of hone i _ hfi
    have hg1 := hg i _ hfi
    have hty : fs[i].type = e := by
      have := List.all_eq_true.1 hk fs[i] (Array.getElem_mem_toList hi')
      simpa using this
    rw [ho, hk1, hty] at hg1
    obtain ⟨y, hy⟩ : ∃ y, ys[i]? = some y := ⟨_, List.getElem?_eq_getElem (by omega)⟩
    rw [hy] at hg1
    obtain ⟨z, hz, _, hw⟩ := DataW.trod_int he hg1
    refine ⟨z, ?_, hw⟩
    have e2 : (cs.drop i).take 1 = [cs[i]] := by
      rw [List.drop_eq_getElem_cons hi, List.take_succ_cons, List.take_zero]
    rw [e2] at hz
    injection hz
  refine ⟨cs.map fun v => match v with | .int _ z => z | _ => 0, ?_, by simp; omega, ?_⟩
  · rw [List.map_map]
    apply List.ext_getElem
    · simp
    · intro i h1 h2
      obtain ⟨z, hz, _⟩ := key i h1
      simp [hz]
  · intro x hx
    obtain ⟨v, hv, rfl⟩ := List.mem_map.1 hx
    obtain ⟨i, hi, rfl⟩ := List.getElem_of_mem hv
    obtain ⟨z, hz, hw⟩ := key i hi
    simp only [hz]
    exact hw
theorem ints_of_struct {r : Reach} {b0 : Nat} {t e : TypeId} {fs : Array Field} {v : Value} {d : DataW H} {p : List MemPlace} (hs : P.underlying t = some (.struct fs)) (hone : oneCellFields P fs = true) (hC : P.cellsOf t = fs.size)
    (m : Nat) (hm : fs.size = m) (he : P.underlying e = some (.int .i64)) (hk : (fs.toList.all fun f => f.type == e) = true) (hv : Value.okWide P w r b0 t v) (h : DataW.Trod enc P w base spare held t v d p) :
    ∃ xs : List Int, v = .agg (xs.map fun x => Value.int .i64 x).toArray ∧ xs.length = m ∧ ∀ x ∈ xs, (Lit.int .i64 x).wf = true := by
  obtain ⟨cs, rfl, hsz⟩ := okWide_struct hs hv
  obtain ⟨fuel, hf⟩ := h
  obtain ⟨xs, hx, hl, hw⟩ := ints_of_trod hs hone hC m hm he hk hf
  refine ⟨xs, ?_, hl, hw⟩
  rw [← hx]
  simp [Value.cells]
theorem opens_int {e : TypeId} {k : IntKind} (he : P.underlying e = some (.int k)) (fuel : Nat) (cs : List Value) (x : DataW H × List MemPlace) (h : DataW.trod enc P w base spare held fuel e cs = some x) : ∃ a : Int, (Kd.int k).K w a cs ∧ (Lit.int k a).wf = true := by
  obtain ⟨n, rfl, _, hw⟩ := DataW.trod_int he h
  exact ⟨n, rfl, hw⟩
theorem list_all {α : Type} {Q : Nat → α → Prop} : ∀ n : Nat, (∀ i, i < n → ∃ x, Q i x) → ∃ xs : List α, xs.length = n ∧ ∀ i x, xs[i]? = some x → Q i x
  | 0, _ => ⟨[], rfl, fun i x h => by simp at h⟩
  | n + 1, h => by
    obtain ⟨xs, hl, hq⟩ := list_all n (fun i hi => h i (by omega))
    obtain ⟨y, hy⟩ := h n (by omega)
    refine ⟨xs ++ [y], by simp [hl], fun i x hx => ?_⟩
    rcases Nat.lt_or_ge i xs.length with hi | hi
    · rw [List.getElem?_append_left hi] at hx
      exact hq i x hx
    · rw [List.getElem?_append_right hi] at hx
      have : i - xs.length = 0 := by
        rcases Nat.eq_zero_or_pos (i - xs.length) with h0 | h0
        · exact h0
        · rw [List.getElem?_eq_none (by simp; omega)] at hx
          cases hx
      rw [this] at hx
      simp at hx
      subst hx
      rw [show i = n by omega]
      exact hy
theorem C_of_slice {α : Type} (d : Kd α) (wfp : α → Prop) {t e : TypeId} {A : Option Addr} {n c : Nat} {d' : DataW H} {p : List MemPlace} (ht : P.underlying t = some (.slice e)) (hsz : P.cellsOf e = d.sz)
    (hopen : ∀ (fuel : Nat) (cs : List Value) (x : DataW H × List MemPlace), DataW.trod enc P w base spare held fuel e cs = some x → ∃ a, d.K w a cs ∧ wfp a) (h : DataW.Trod enc P w base spare held t (.slice A n c) d' p) :
    n ≤ c ∧ n ≤ maxLen ∧ ∃ xs : List α, xs.length = n ∧ (∀ a ∈ xs, wfp a) ∧ d.C w A n xs := by
  obtain ⟨fuel, hf⟩ := h
  rcases open_slice ht hf with ⟨h0, _⟩ | ⟨a, len, cap, m, f2, D, Pl, hcs, _, hl, hm, hmm, _, hi⟩
  · simp [Value.cells] at h0
    obtain ⟨rfl, rfl, rfl⟩ := h0
    exact ⟨Nat.le_refl _, Nat.zero_le _, [], rfl, fun _ h => by simp at h, rfl, by omega, fun h => by omega⟩
  · simp [Value.cells] at hcs
    obtain ⟨rfl, rfl, rfl⟩ := hcs
    have hnm : n ≤ m := by rw [hmm]; split <;> omega
    obtain ⟨xs, hxl, hq⟩ := list_all (Q := fun i x => wfp x ∧ ∃ cs', cs'.length = d.sz ∧ d.K w x cs' ∧ ∀ j u, cs'[j]? = some u → w.cell? (a.add (i * d.sz + j)) = some u) n (fun i hin => by
      obtain ⟨cs', hc, ht'⟩ := hi i (by omega)
      obtain ⟨x, hK, hw⟩ := hopen _ _ _ ht'
      obtain ⟨_, hcl, hat⟩ := World.cells?_some hc
      refine ⟨x, hw, cs', by rw [hcl, hsz], hK, fun j u hu => ?_⟩
      have hj : j < cs'.length := (List.getElem?_eq_some_iff.1 hu).1
      have := hat j (by omega)
      rw [hu, hsz] at this
      rw [← Go.Deep.add_add]
      exact this)
    unfold maxLen at hm
    refine ⟨hl, by unfold maxLen; omega, xs, hxl, fun x hx => ?_, hxl, by omega, fun _ => ⟨a, rfl, fun j p hj => ?_⟩⟩
    · obtain ⟨i, hi', rfl⟩ := List.getElem_of_mem hx
      exact (hq i _ (List.getElem?_eq_getElem hi')).1
    · obtain ⟨_, cs', h1, h2, h3⟩ := hq j p hj
      exact ⟨cs', h1, h2, h3⟩
theorem struct_parts {r : Reach} {b0 : Nat} {t : TypeId} {fs : Array Field} {v : Value} {d : DataW H} {p : List MemPlace} (hs : P.underlying t = some (.struct fs)) (m : Nat) (hC : P.cellsOf t = m) (hv : Value.okWide P w r b0 t v) (h : DataW.Trod enc P w base spare held t v d p) :
    ∃ cs : List Value, v = .agg cs.toArray ∧ cs.length = m ∧ ∀ (i : Nat) (f : Field), fs[i]? = some f → ∃ n y, DataW.trod enc P w base spare held n f.type ((cs.drop f.offset).take (P.cellsOf f.type)) = some y := by
  obtain ⟨cs, rfl, hsz⟩ := okWide_struct hs hv
  obtain ⟨fuel, hf⟩ := h
  obtain ⟨ys, n, _, _, hcl, hlen, hg⟩ := DataW.trod_struct hs hf
  refine ⟨_, ?_, hcl.trans hC, fun i f hi => ?_⟩
  · simp [Value.cells]
  · have hlt : i < fs.size := (Array.getElem?_eq_some_iff.1 hi).1
    have := hg i f hi
    rw [List.getElem?_eq_getElem (show i < ys.length by omega)] at this
    exact ⟨n, _, this⟩
theorem field_at {cs : List Value} {fs : Array Field} (fd : ∀ (i : Nat) (f : Field), fs[i]? = some f → ∃ n y, DataW.trod enc P w base spare held n f.type ((cs.drop f.offset).take (P.cellsOf f.type)) = some y)
    (i off sz : Nat) (ft : TypeId) (hi : (fs[i]?).map (fun f => (f.offset, f.type)) = some (off, ft)) (hz : P.cellsOf ft = sz) (part : List Value) (hp : (cs.drop off).take sz = part) : ∃ n y, DataW.trod enc P w base spare held n ft part = some y := by
  cases hf : fs[i]? with
  | none => rw [hf] at hi; cases hi
  | some f =>
    rw [hf] at hi
    simp only [Option.map_some, Option.some.injEq, Prod.mk.injEq] at hi
    obtain ⟨rfl, rfl⟩ := hi
    obtain ⟨n, y, h⟩ := fd i f hf
    rw [hz, hp] at h
    exact ⟨n, y, h⟩
theorem int_field {e : TypeId} (he : P.underlying e = some (.int .i64)) {c : Value} (h : ∃ n y, DataW.trod enc P w base spare held n e [c] = some y) : ∃ z : Int, c = .int .i64 z ∧ (Lit.int .i64 z).wf = true := by
  obtain ⟨n, y, h⟩ := h
  obtain ⟨z, hz, _, hw⟩ := DataW.trod_int he h
  injection hz with hz
  exact ⟨z, hz, hw⟩
theorem slice_field {t e : TypeId} (ht : P.underlying t = some (.slice e)) {c : Value} (h : ∃ n y, DataW.trod enc P w base spare held n t [c] = some y) : ∃ (A : Option Addr) (len cap : Nat) (d : DataW H) (p : List MemPlace), c = .slice A len cap ∧ DataW.Trod enc P w base spare held t (.slice A len cap) d p := by
  obtain ⟨n, y, h⟩ := h
  have h' := h
  rcases DataW.trod_slice ht h with ⟨hc, _⟩ | ⟨a, len, cap, _, _, _, _, hc, _⟩
  · injection hc with hc
    subst hc
    exact ⟨none, 0, 0, y.1, y.2, rfl, n, h'⟩
  · injection hc with hc
    subst hc
    exact ⟨some a, len, cap, y.1, y.2, rfl, n, h'⟩
theorem list2 {α : Type} {xs : List α} (h : xs.length = 2) : ∃ a0 a1, xs = [a0, a1] := by
  match xs, h with
  | [a0, a1], _ => exact ⟨a0, a1, rfl⟩
theorem list3 {α : Type} {xs : List α} (h : xs.length = 3) : ∃ a0 a1 a2, xs = [a0, a1, a2] := by
  match xs, h with
  | [a0, a1, a2], _ => exact ⟨a0, a1, a2, rfl⟩
theorem list4 {α : Type} {xs : List α} (h : xs.length = 4) : ∃ a0 a1 a2 a3, xs = [a0, a1, a2, a3] := by
  match xs, h with
  | [a0, a1, a2, a3], _ => exact ⟨a0, a1, a2, a3, rfl⟩
theorem list19 {α : Type} {xs : List α} (h : xs.length = 19) : ∃ a0 a1 a2 a3 a4 a5 a6 a7 a8 a9 a10 a11 a12 a13 a14 a15 a16 a17 a18, xs = [a0, a1, a2, a3, a4, a5, a6, a7, a8, a9, a10, a11, a12, a13, a14, a15, a16, a17, a18] := by
  match xs, h with
  | [a0, a1, a2, a3, a4, a5, a6, a7, a8, a9, a10, a11, a12, a13, a14, a15, a16, a17, a18], _ => exact ⟨a0, a1, a2, a3, a4, a5, a6, a7, a8, a9, a10, a11, a12, a13, a14, a15, a16, a17, a18, rfl⟩
end
section
variable {H : Type} {enc : TypeId × Value → H} {w : World} {base : Nat} {spare : Nat → Bool} {held : Bool}
def wf77 (x : GFnExactEqualThreads.S77) : Prop := (Lit.int .i64 x.f0).wf = true ∧ (Lit.int .i64 x.f1).wf = true ∧ (Lit.int .i64 x.f2).wf = true ∧ (Lit.int .i64 x.f3).wf = true
theorem opens77 (fuel : Nat) (cs : List Value) (x : DataW H × List MemPlace) (h : DataW.trod enc Try.prog w base spare held fuel 77 cs = some x) : ∃ a : GFnExactEqualThreads.S77, GFnExactEqualThreads.k77.K w a cs ∧ wf77 a := by
  obtain ⟨zs, rfl, hl, hw⟩ := ints_of_trod Try.underlying77 (by kernel_rfl) (by kernel_rfl) 4 (by kernel_rfl) Try.underlying3 (by kernel_rfl) h
  obtain ⟨a0, a1, a2, a3, rfl⟩ := list4 hl
  exact ⟨⟨a0, a1, a2, a3⟩, GFnExactEqualThreads.k77_mk w _, hw a0 (by simp), hw a1 (by simp), hw a2 (by simp), hw a3 (by simp)⟩
end
theorem own : ownKnob Try.prog.godebug = none := by kernel_rfl
theorem laidOut : laidOutB Try.prog = true := by kernel_rfl
set_option maxRecDepth 100000 in
theorem lifted (os : Os) (started : os.Started) (H : Type) (enc : TypeId × Value → H) :
    ReturnsInHanded {} Try.checked os 3 .any (Rows.fnExactEqualThreadsSpec.pre6 enc Try.prog Try.f3 Rows.fnExactEqualThreadsRow.domain false) (Rows.fnExactEqualThreadsSpec.post enc Try.prog Try.f3 false true false false) := by
  refine returnsInHanded_of_change_sized (C := Try.checked) own started (by kernel_rfl) Try.func3
    (ChangeSpec.witness6 (enc := enc) (C := Try.checked) false ⟨#[], #[.agg #[.int .i64 0, .int .i64 0, .int .i64 0, .int .i64 0, .int .i64 0, .int .i64 0, .int .i64 0, .int .i64 0, .int .i64 0, .int .i64 0, .int .i64 0, .int .i64 0, .int .i64 0, .int .i64 0, .slice none 0 0, .slice none 0 0, .slice none 0 0, .slice none 0 0, .slice none 0 0], .agg #[.int .i64 0, .int .i64 0, .int .i64 0, .int .i64 0, .int .i64 0, .int .i64 0, .int .i64 0, .int .i64 0, .int .i64 0, .int .i64 0, .int .i64 0, .int .i64 0, .int .i64 0, .int .i64 0, .slice none 0 0, .slice none 0 0, .slice none 0 0, .slice none 0 0, .slice none 0 0]], []⟩ 8 (by kernel_rfl) (by kernel_rfl) (by kernel_rfl) (by kernel_rfl)) ?_
  intro W base args ds gs before hval0 hW hcnd hsz0 _
  have hsz : (DataW.weightsEach Try.prog (Try.f3.params.toList ++ Rows.fnExactEqualThreadsSpec.plain.varTypes Try.prog) (ds ++ gs)).all (· ≤ reachBytes) = true := hsz0
  have hval : ∀ (j : Nat) t v, Try.f3.params[j]? = some t → args[j]? = some v → Value.okWide Try.prog W .any base t v := hval0
  have hW' := hW
  obtain ⟨p, q, hA0, hV, rfl, hfz, hnd⟩ := hW
  have hA : DataW.TrodAll enc Try.prog W 0 (fun _ => true) true Try.f3.params.toList args.toList ds p := hA0
  rw [Try.params3] at hA hval hsz
  obtain ⟨v0, vs0, d0, ds0, p0, q0, hargs, rfl, rfl, h0, r0⟩ := trodAll_cons hA
  obtain ⟨v1, vs1, d1, ds1, p1, q1, rfl, rfl, rfl, h1, r1⟩ := trodAll_cons r0
  obtain ⟨rfl, rfl, rfl⟩ := trodAll_nil r1
  obtain rfl : args = #[v0, v1] := by cases args; simp_all
  obtain ⟨rfl, rfl⟩ := trodVars_none hV
  have k0 := h0
  have lt0 : ∀ x ∈ p0, x.block < W.heap.size := by obtain ⟨m, hm⟩ := k0; exact DataW.trod_lt m _ _ _ hm
  obtain ⟨cs0, rfl, len0, fd0⟩ := struct_parts Try.underlying29 19 (by kernel_rfl) (hval 0 29 v0 rfl rfl) h0
  obtain ⟨c0_0, c0_1, c0_2, c0_3, c0_4, c0_5, c0_6, c0_7, c0_8, c0_9, c0_10, c0_11, c0_12, c0_13, c0_14, c0_15, c0_16, c0_17, c0_18, rfl⟩ := list19 len0
  obtain ⟨a0_0, e0_0, w0_0⟩ := int_field (c := c0_0) Try.underlying3 (field_at fd0 0 0 1 3 rfl (by kernel_rfl) [c0_0] rfl)
  obtain ⟨fn0_1, fy0_1, ft0_1⟩ := (field_at fd0 1 1 3 23 rfl (by kernel_rfl) [c0_1, c0_2, c0_3] rfl)
  obtain ⟨zs0_1, ez0_1, el0_1, ew0_1⟩ := ints_of_trod Try.underlying23 (by kernel_rfl) (by kernel_rfl) 3 (by kernel_rfl) Try.underlying3 (by kernel_rfl) ft0_1
  obtain ⟨a0_1, a0_2, a0_3, rfl⟩ := list3 el0_1
  simp only [List.map_cons, List.map_nil, List.cons.injEq, and_true] at ez0_1
  obtain ⟨e0_1, e0_2, e0_3⟩ := ez0_1
  have w0_1 := ew0_1 a0_1 (by simp)
  have w0_2 := ew0_1 a0_2 (by simp)
  have w0_3 := ew0_1 a0_3 (by simp)
  obtain ⟨fn0_4, fy0_4, ft0_4⟩ := (field_at fd0 2 4 2 25 rfl (by kernel_rfl) [c0_4, c0_5] rfl)
  obtain ⟨zs0_4, ez0_4, el0_4, ew0_4⟩ := ints_of_trod Try.underlying25 (by kernel_rfl) (by kernel_rfl) 2 (by kernel_rfl) Try.underlying3 (by kernel_rfl) ft0_4
  obtain ⟨a0_4, a0_5, rfl⟩ := list2 el0_4
  simp only [List.map_cons, List.map_nil, List.cons.injEq, and_true] at ez0_4
  obtain ⟨e0_4, e0_5⟩ := ez0_4
  have w0_4 := ew0_4 a0_4 (by simp)
  have w0_5 := ew0_4 a0_5 (by simp)
  obtain ⟨a0_6, e0_6, w0_6⟩ := int_field (c := c0_6) Try.underlying3 (field_at fd0 3 6 1 3 rfl (by kernel_rfl) [c0_6] rfl)
  obtain ⟨a0_7, e0_7, w0_7⟩ := int_field (c := c0_7) Try.underlying3 (field_at fd0 4 7 1 3 rfl (by kernel_rfl) [c0_7] rfl)
  obtain ⟨a0_8, e0_8, w0_8⟩ := int_field (c := c0_8) Try.underlying3 (field_at fd0 5 8 1 3 rfl (by kernel_rfl) [c0_8] rfl)
  obtain ⟨a0_9, e0_9, w0_9⟩ := int_field (c := c0_9) Try.underlying3 (field_at fd0 6 9 1 3 rfl (by kernel_rfl) [c0_9] rfl)
  obtain ⟨a0_10, e0_10, w0_10⟩ := int_field (c := c0_10) Try.underlying3 (field_at fd0 7 10 1 3 rfl (by kernel_rfl) [c0_10] rfl)
  obtain ⟨a0_11, e0_11, w0_11⟩ := int_field (c := c0_11) Try.underlying3 (field_at fd0 8 11 1 3 rfl (by kernel_rfl) [c0_11] rfl)
  obtain ⟨a0_12, e0_12, w0_12⟩ := int_field (c := c0_12) Try.underlying3 (field_at fd0 9 12 1 3 rfl (by kernel_rfl) [c0_12] rfl)
  obtain ⟨a0_13, e0_13, w0_13⟩ := int_field (c := c0_13) Try.underlying3 (field_at fd0 10 13 1 3 rfl (by kernel_rfl) [c0_13] rfl)
  obtain ⟨A0_14, n0_14, cap0_14, dd0_14, pp0_14, e0_14, T0_14⟩ := slice_field (c := c0_14) Try.underlying26 (field_at fd0 11 14 1 26 rfl (by kernel_rfl) [c0_14] rfl)
  obtain ⟨hc0_14, hm0_14, l0_14, hl0_14, hw0_14, hr0_14⟩ := C_of_slice (Kd.int .i64) (fun z => (Lit.int .i64 z).wf = true) Try.underlying26 (by kernel_rfl) (fun fuel cs x hx => opens_int Try.underlying3 fuel cs x hx) T0_14
  subst hl0_14
  obtain ⟨A0_15, n0_15, cap0_15, dd0_15, pp0_15, e0_15, T0_15⟩ := slice_field (c := c0_15) Try.underlying26 (field_at fd0 12 15 1 26 rfl (by kernel_rfl) [c0_15] rfl)
  obtain ⟨hc0_15, hm0_15, l0_15, hl0_15, hw0_15, hr0_15⟩ := C_of_slice (Kd.int .i64) (fun z => (Lit.int .i64 z).wf = true) Try.underlying26 (by kernel_rfl) (fun fuel cs x hx => opens_int Try.underlying3 fuel cs x hx) T0_15
  subst hl0_15
  obtain ⟨A0_16, n0_16, cap0_16, dd0_16, pp0_16, e0_16, T0_16⟩ := slice_field (c := c0_16) Try.underlying27 (field_at fd0 13 16 1 27 rfl (by kernel_rfl) [c0_16] rfl)
  obtain ⟨hc0_16, hm0_16, l0_16, hl0_16, hw0_16, hr0_16⟩ := C_of_slice GFnExactEqualThreads.k77 wf77 Try.underlying27 (by kernel_rfl) (fun fuel cs x hx => opens77 fuel cs x hx) T0_16
  subst hl0_16
  obtain ⟨A0_17, n0_17, cap0_17, dd0_17, pp0_17, e0_17, T0_17⟩ := slice_field (c := c0_17) Try.underlying27 (field_at fd0 14 17 1 27 rfl (by kernel_rfl) [c0_17] rfl)
  obtain ⟨hc0_17, hm0_17, l0_17, hl0_17, hw0_17, hr0_17⟩ := C_of_slice GFnExactEqualThreads.k77 wf77 Try.underlying27 (by kernel_rfl) (fun fuel cs x hx => opens77 fuel cs x hx) T0_17
  subst hl0_17
  obtain ⟨A0_18, n0_18, cap0_18, dd0_18, pp0_18, e0_18, T0_18⟩ := slice_field (c := c0_18) Try.underlying26 (field_at fd0 15 18 1 26 rfl (by kernel_rfl) [c0_18] rfl)
  obtain ⟨hc0_18, hm0_18, l0_18, hl0_18, hw0_18, hr0_18⟩ := C_of_slice (Kd.int .i64) (fun z => (Lit.int .i64 z).wf = true) Try.underlying26 (by kernel_rfl) (fun fuel cs x hx => opens_int Try.underlying3 fuel cs x hx) T0_18
  subst hl0_18
  subst e0_0 e0_1 e0_2 e0_3 e0_4 e0_5 e0_6 e0_7 e0_8 e0_9 e0_10 e0_11 e0_12 e0_13 e0_14 e0_15 e0_16 e0_17 e0_18
  have k1 := h1
  have lt1 : ∀ x ∈ p1, x.block < W.heap.size := by obtain ⟨m, hm⟩ := k1; exact DataW.trod_lt m _ _ _ hm
  obtain ⟨cs1, rfl, len1, fd1⟩ := struct_parts Try.underlying29 19 (by kernel_rfl) (hval 1 29 v1 rfl rfl) h1
  obtain ⟨c1_0, c1_1, c1_2, c1_3, c1_4, c1_5, c1_6, c1_7, c1_8, c1_9, c1_10, c1_11, c1_12, c1_13, c1_14, c1_15, c1_16, c1_17, c1_18, rfl⟩ := list19 len1
  obtain ⟨a1_0, e1_0, w1_0⟩ := int_field (c := c1_0) Try.underlying3 (field_at fd1 0 0 1 3 rfl (by kernel_rfl) [c1_0] rfl)
  obtain ⟨fn1_1, fy1_1, ft1_1⟩ := (field_at fd1 1 1 3 23 rfl (by kernel_rfl) [c1_1, c1_2, c1_3] rfl)
  obtain ⟨zs1_1, ez1_1, el1_1, ew1_1⟩ := ints_of_trod Try.underlying23 (by kernel_rfl) (by kernel_rfl) 3 (by kernel_rfl) Try.underlying3 (by kernel_rfl) ft1_1
  obtain ⟨a1_1, a1_2, a1_3, rfl⟩ := list3 el1_1
  simp only [List.map_cons, List.map_nil, List.cons.injEq, and_true] at ez1_1
  obtain ⟨e1_1, e1_2, e1_3⟩ := ez1_1
  have w1_1 := ew1_1 a1_1 (by simp)
  have w1_2 := ew1_1 a1_2 (by simp)
  have w1_3 := ew1_1 a1_3 (by simp)
  obtain ⟨fn1_4, fy1_4, ft1_4⟩ := (field_at fd1 2 4 2 25 rfl (by kernel_rfl) [c1_4, c1_5] rfl)
  obtain ⟨zs1_4, ez1_4, el1_4, ew1_4⟩ := ints_of_trod Try.underlying25 (by kernel_rfl) (by kernel_rfl) 2 (by kernel_rfl) Try.underlying3 (by kernel_rfl) ft1_4
  obtain ⟨a1_4, a1_5, rfl⟩ := list2 el1_4
  simp only [List.map_cons, List.map_nil, List.cons.injEq, and_true] at ez1_4
  obtain ⟨e1_4, e1_5⟩ := ez1_4
  have w1_4 := ew1_4 a1_4 (by simp)
  have w1_5 := ew1_4 a1_5 (by simp)
  obtain ⟨a1_6, e1_6, w1_6⟩ := int_field (c := c1_6) Try.underlying3 (field_at fd1 3 6 1 3 rfl (by kernel_rfl) [c1_6] rfl)
  obtain ⟨a1_7, e1_7, w1_7⟩ := int_field (c := c1_7) Try.underlying3 (field_at fd1 4 7 1 3 rfl (by kernel_rfl) [c1_7] rfl)
  obtain ⟨a1_8, e1_8, w1_8⟩ := int_field (c := c1_8) Try.underlying3 (field_at fd1 5 8 1 3 rfl (by kernel_rfl) [c1_8] rfl)
  obtain ⟨a1_9, e1_9, w1_9⟩ := int_field (c := c1_9) Try.underlying3 (field_at fd1 6 9 1 3 rfl (by kernel_rfl) [c1_9] rfl)
  obtain ⟨a1_10, e1_10, w1_10⟩ := int_field (c := c1_10) Try.underlying3 (field_at fd1 7 10 1 3 rfl (by kernel_rfl) [c1_10] rfl)
  obtain ⟨a1_11, e1_11, w1_11⟩ := int_field (c := c1_11) Try.underlying3 (field_at fd1 8 11 1 3 rfl (by kernel_rfl) [c1_11] rfl)
  obtain ⟨a1_12, e1_12, w1_12⟩ := int_field (c := c1_12) Try.underlying3 (field_at fd1 9 12 1 3 rfl (by kernel_rfl) [c1_12] rfl)
  obtain ⟨a1_13, e1_13, w1_13⟩ := int_field (c := c1_13) Try.underlying3 (field_at fd1 10 13 1 3 rfl (by kernel_rfl) [c1_13] rfl)
  obtain ⟨A1_14, n1_14, cap1_14, dd1_14, pp1_14, e1_14, T1_14⟩ := slice_field (c := c1_14) Try.underlying26 (field_at fd1 11 14 1 26 rfl (by kernel_rfl) [c1_14] rfl)
  obtain ⟨hc1_14, hm1_14, l1_14, hl1_14, hw1_14, hr1_14⟩ := C_of_slice (Kd.int .i64) (fun z => (Lit.int .i64 z).wf = true) Try.underlying26 (by kernel_rfl) (fun fuel cs x hx => opens_int Try.underlying3 fuel cs x hx) T1_14
  subst hl1_14
  obtain ⟨A1_15, n1_15, cap1_15, dd1_15, pp1_15, e1_15, T1_15⟩ := slice_field (c := c1_15) Try.underlying26 (field_at fd1 12 15 1 26 rfl (by kernel_rfl) [c1_15] rfl)
  obtain ⟨hc1_15, hm1_15, l1_15, hl1_15, hw1_15, hr1_15⟩ := C_of_slice (Kd.int .i64) (fun z => (Lit.int .i64 z).wf = true) Try.underlying26 (by kernel_rfl) (fun fuel cs x hx => opens_int Try.underlying3 fuel cs x hx) T1_15
  subst hl1_15
  obtain ⟨A1_16, n1_16, cap1_16, dd1_16, pp1_16, e1_16, T1_16⟩ := slice_field (c := c1_16) Try.underlying27 (field_at fd1 13 16 1 27 rfl (by kernel_rfl) [c1_16] rfl)
  obtain ⟨hc1_16, hm1_16, l1_16, hl1_16, hw1_16, hr1_16⟩ := C_of_slice GFnExactEqualThreads.k77 wf77 Try.underlying27 (by kernel_rfl) (fun fuel cs x hx => opens77 fuel cs x hx) T1_16
  subst hl1_16
  obtain ⟨A1_17, n1_17, cap1_17, dd1_17, pp1_17, e1_17, T1_17⟩ := slice_field (c := c1_17) Try.underlying27 (field_at fd1 14 17 1 27 rfl (by kernel_rfl) [c1_17] rfl)
  obtain ⟨hc1_17, hm1_17, l1_17, hl1_17, hw1_17, hr1_17⟩ := C_of_slice GFnExactEqualThreads.k77 wf77 Try.underlying27 (by kernel_rfl) (fun fuel cs x hx => opens77 fuel cs x hx) T1_17
  subst hl1_17
  obtain ⟨A1_18, n1_18, cap1_18, dd1_18, pp1_18, e1_18, T1_18⟩ := slice_field (c := c1_18) Try.underlying26 (field_at fd1 15 18 1 26 rfl (by kernel_rfl) [c1_18] rfl)
  obtain ⟨hc1_18, hm1_18, l1_18, hl1_18, hw1_18, hr1_18⟩ := C_of_slice (Kd.int .i64) (fun z => (Lit.int .i64 z).wf = true) Try.underlying26 (by kernel_rfl) (fun fuel cs x hx => opens_int Try.underlying3 fuel cs x hx) T1_18
  subst hl1_18
  subst e1_0 e1_1 e1_2 e1_3 e1_4 e1_5 e1_6 e1_7 e1_8 e1_9 e1_10 e1_11 e1_12 e1_13 e1_14 e1_15 e1_16 e1_17 e1_18
  clear hA0 hval0 hsz0
  obtain ⟨k, hp⟩ := Pure.FnExactEqualThreads a0_0 a0_1 a0_2 a0_3 a0_4 a0_5 a0_6 a0_7 a0_8 a0_9 a0_10 a0_11 a0_12 a0_13 l0_14 l0_15 l0_16 l0_17 l0_18 a1_0 a1_1 a1_2 a1_3 a1_4 a1_5 a1_6 a1_7 a1_8 a1_9 a1_10 a1_11 a1_12 a1_13 l1_14 l1_15 l1_16 l1_17 l1_18 w0_0 w0_1 w0_2 w0_3 w0_4 w0_5 w0_6 w0_7 w0_8 w0_9 w0_10 w0_11 w0_12 w0_13 hm0_14 hw0_14 hm0_15 hw0_15 hm0_16 hw0_16 hm0_17 hw0_17 hm0_18 hw0_18 w1_0 w1_1 w1_2 w1_3 w1_4 w1_5 w1_6 w1_7 w1_8 w1_9 w1_10 w1_11 w1_12 w1_13 hm1_14 hw1_14 hm1_15 hw1_15 hm1_16 hw1_16 hm1_17 hw1_17 hm1_18 hw1_18
  refine (GFnExactEqualThreads.laws_FnExactEqualThreads.calls k a0_0 a0_1 a0_2 a0_3 a0_4 a0_5 a0_6 a0_7 a0_8 a0_9 a0_10 a0_11 a0_12 a0_13 A0_14 cap0_14 l0_14 A0_15 cap0_15 l0_15 A0_16 cap0_16 l0_16 A0_17 cap0_17 l0_17 A0_18 cap0_18 l0_18 a1_0 a1_1 a1_2 a1_3 a1_4 a1_5 a1_6 a1_7 a1_8 a1_9 a1_10 a1_11 a1_12 a1_13 A1_14 cap1_14 l1_14 A1_15 cap1_15 l1_15 A1_16 cap1_16 l1_16 A1_17 cap1_17 l1_17 A1_18 cap1_18 l1_18 true W hr0_14 hc0_14 hr0_15 hc0_15 hr0_16 hc0_16 hr0_17 hc0_17 hr0_18 hc0_18 hr1_14 hc1_14 hr1_15 hc1_15 hr1_16 hc1_16 hr1_17 hc1_17 hr1_18 hc1_18 hp).mono ?_
  rintro e W' ⟨rfl, bel0⟩
  have bel : Below W.heap.size W W' := by first | exact bel0 | exact bel0.below
  exact ⟨_, rfl, _, _, _, [], _, [], hW', trodAll_mk1 (shut_bool Try.underlying4 _), (trodAll_cons_mk (Below.trod laidOut (by kernel_rfl) (of_decide_eq_true (by kernel_rfl)) k0 bel lt0) (trodAll_cons_mk (Below.trod laidOut (by kernel_rfl) (of_decide_eq_true (by kernel_rfl)) k1 bel lt1) trodAll_mk0)), rfl, bel.frame _, fun h => by cases h⟩
theorem over : Rows.fnExactEqualThreadsRow.holds Try.pinned (OpenSpec.ofChange Rows.fnExactEqualThreadsSpec) :=
  OpenClaim.holds_of_wide 3 Try.f3 rfl rfl rfl rfl rfl rfl rfl ⟨rfl, rfl, rfl, rfl, rfl⟩ rfl rfl rfl rfl rfl (by kernel_rfl) Try.func3 (by kernel_rfl)
    (of_decide_eq_true (by kernel_rfl)) (by unfold Func.isWrapper; first | (rw [if_pos (by decide +kernel)]; kernel_rfl) | (rw [if_neg (by decide +kernel)]; exact ⟨rfl, rfl⟩))
    (fun os started H enc _ => lifted os started H enc)
theorem proved : Rows.FnExactEqualThreadsSaid := over
#print axioms proved
end Go.Proofs.Ytamlpnfnidkknaa.fnExactEqualThreads
namespace Go.Proofs.Ytamlpnfnidkknaa
/-- The row, under a short name, for the claim. -/
theorem fnExactEqualThreads_holds : Rows.FnExactEqualThreadsSaid := fnExactEqualThreads.proved
end Go.Proofs.Ytamlpnfnidkknaa
