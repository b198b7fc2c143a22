/- The row of the law FnExactNewState: for every input that can be read it returns true and leaves its arguments as they were. No condition. -/
import Derived.Test.YtamlpnfnidkknaaRows
import Derived.Test.YtamlpnfnidkknaaGFnExactNewStatex12
import Derived.Test.YtamlpnfnidkknaaPureFnExactNewState
import Derived.WalkKit
import Derived.ProofKit
import Derived.OpenShut
import Derived.ShutString
import Derived.ChangeOld
import Derived.Below
import Derived.SizedLaws
import Derived.Deep.Fields
import Derived.Deep.Slices
import Derived.Lib.SmallJoins
import Derived.Test.YtamlpnfnidkknaaVFnExactNewStateSized
set_option linter.unusedVariables false
set_option linter.unusedSimpArgs false
namespace Go.Proofs.Ytamlpnfnidkknaa.fnExactNewState
open Go.ChangeShapes Go.WideShapes Go.ChangeAt Go.RowKit Go.Deep Go.Proofs.YtamlpnfnidkknaaW.PrintWords
open Go.ChangeMaps (open_string shut_string)
section
variable {H : Type} {enc : TypeId × Value → H} {P : Program} {w : World} {base : Nat} {spare : Nat → Bool} {held : Bool}
theorem ints_of_trod {t e : TypeId} {fs : Array Field} {fuel : Nat} {cs : List Value} {x : DataW H × List MemPlace} (hs : P.underlying t = some (.struct fs)) (hone : oneCellFields P fs = true) (hC : P.cellsOf t = fs.size)
    (m : Nat) (hm : fs.size = m) (he : P.underlying e = some (.int .i64)) (hk : (fs.toList.all fun f => f.type == e) = true) (h : DataW.trod enc P w base spare held fuel t cs = some x) :
    ∃ xs : List Int, cs = xs.map (fun x => Value.int .i64 x) ∧ xs.length = m ∧ ∀ x ∈ xs, (Lit.int .i64 x).wf = true := by
  subst hm
  obtain ⟨ys, n, _, _, hcl, hlen, hg⟩ := DataW.trod_struct hs h
  have key : ∀ i (hi : i < cs.length), ∃ z : Int, cs[i] = .int .i64 z ∧ (Lit.int .i64 z).wf = true := by
    intro i hi
    have hi' : i < fs.size := by omega
    have hfi : fs[i]? = some fs[i] := Array.getElem?_eq_getElem hi'
    obtain ⟨ho, hk1⟩ := hone_of hone i _ hfi
    have hg1 := hg i _ hfi
    have hty : fs[i].type = e := by
      have := List.all_eq_true.1 hk fs[i] (Array.getElem_mem_toList hi')
      simpa using this
    rw [ho, hk1, hty] at hg1
    obtain ⟨y, hy⟩ : ∃ y, ys[i]? = some y := ⟨_, List.getElem?_eq_getElem (by omega)⟩
    rw [hy] at hg1
    obtain ⟨z, hz, _, hw⟩ := DataW.trod_int he hg1
    refine ⟨z, ?_, hw⟩
    have e2 : (cs.drop i).take 1 = [cs[i]] := by
      rw [List.drop_eq_getElem_cons hi, List.take_succ_cons, List.take_zero]
    rw [e2] at hz
    injection hz
  refine ⟨cs.map fun v => match v with | .int _ z => z | _ => 0, ?_, by simp; omega, ?_⟩
  · rw [List.map_map]
    apply List.ext_getElem
    · simp
    · intro i h1 h2
      obtain ⟨z, hz, _⟩ := key i h1
      simp [hz]
  · intro x hx
    obtain ⟨v, hv, rfl⟩ := List.mem_map.1 hx
    obtain ⟨i, hi, rfl⟩ := List.getElem_of_mem hv
    obtain ⟨z, hz, hw⟩ := key i hi
    simp only [hz]
    exact hw
theorem ints_of_struct {r : Reach} {b0 : Nat} {t e : TypeId} {fs : Array Field} {v : Value} {d : DataW H} {p : List MemPlace} (hs : P.underlying t = some (.struct fs)) (hone : oneCellFields P fs = true) (hC : P.cellsOf t = fs.size)
    (m : Nat) (hm : fs.size = m) (he : P.underlying e = some (.int .i64)) (hk : (fs.toList.all fun f => f.type == e) = true) (hv : Value.okWide P w r b0 t v) (h : DataW.Trod enc P w base spare held t v d p) :
    ∃ xs : List Int, v = .agg (xs.map fun x => Value.int .i64 x).toArray ∧ xs.length = m ∧ ∀ x ∈ xs, (Lit.int .i64 x).wf = true := by
  obtain ⟨cs, rfl, hsz⟩ := okWide_struct hs hv
  obtain ⟨fuel, hf⟩ := h
  obtain ⟨xs, hx, hl, hw⟩ := ints_of_trod hs hone hC m hm he hk hf
  refine ⟨xs, ?_, hl, hw⟩
  rw [← hx]
  simp [Value.cells]
theorem opens_int {e : TypeId} {k : IntKind} (he : P.underlying e = some (.int k)) (fuel : Nat) (cs : List Value) (x : DataW H × List MemPlace) (h : DataW.trod enc P w base spare held fuel e cs = some x) : ∃ a : Int, (Kd.int k).K w a cs ∧ (Lit.int k a).wf = true := by
  obtain ⟨n, rfl, _, hw⟩ := DataW.trod_int he h
  exact ⟨n, rfl, hw⟩
theorem list_all {α : Type} {Q : Nat → α → Prop} : ∀ n : Nat, (∀ i, i < n → ∃ x, Q i x) → ∃ xs : List α, xs.length = n ∧ ∀ i x, xs[i]? = some x → Q i x
  | 0, _ => ⟨[], rfl, fun i x h => by simp at h⟩
  | n + 1, h => by
    obtain ⟨xs, hl, hq⟩ := list_all n (fun i hi => h i (by omega))
    obtain ⟨y, hy⟩ := h n (by omega)
    refine ⟨xs ++ [y], by simp [hl], fun i x hx => ?_⟩
    rcases Nat.lt_or_ge i xs.length with hi | hi
    · rw [List.getElem?_append_left hi] at hx
      exact hq i x hx
    · rw [List.getElem?_append_right hi] at hx
      have : i - xs.length = 0 := by
        rcases Nat.eq_zero_or_pos (i - xs.length) with h0 | h0
        · exact h0
        · rw [List.getElem?_eq_none (by simp; omega)] at hx
          cases hx
      rw [this] at hx
      simp at hx
      subst hx
      rw [show i = n by omega]
      exact hy
theorem C_of_slice {α : Type} (d : Kd α) (wfp : α → Prop) {t e : TypeId} {A : Option Addr} {n c : Nat} {d' : DataW H} {p : List MemPlace} (ht : P.underlying t = some (.slice e)) (hsz : P.cellsOf e = d.sz)
    (hopen : ∀ (fuel : Nat) (cs : List Value) (x : DataW H × List MemPlace), DataW.trod enc P w base spare held fuel e cs = some x → ∃ a, d.K w a cs ∧ wfp a) (h : DataW.Trod enc P w base spare held t (.slice A n c) d' p) :
    n ≤ c ∧ n ≤ maxLen ∧ ∃ xs : List α, xs.length = n ∧ (∀ a ∈ xs, wfp a) ∧ d.C w A n xs := by
  obtain ⟨fuel, hf⟩ := h
  rcases open_slice ht hf with ⟨h0, _⟩ | ⟨a, len, cap, m, f2, D, Pl, hcs, _, hl, hm, hmm, _, hi⟩
  · simp [Value.cells] at h0
    obtain ⟨rfl, rfl, rfl⟩ := h0
    exact ⟨Nat.le_refl _, Nat.zero_le _, [], rfl, fun _ h => by simp at h, rfl, by omega, fun h => by omega⟩
  · simp [Value.cells] at hcs
    obtain ⟨rfl, rfl, rfl⟩ := hcs
    have hnm : n ≤ m := by rw [hmm]; split <;> omega
    obtain ⟨xs, hxl, hq⟩ := list_all (Q := fun i x => wfp x ∧ ∃ cs', cs'.length = d.sz ∧ d.K w x cs' ∧ ∀ j u, cs'[j]? = some u → w.cell? (a.add (i * d.sz + j)) = some u) n (fun i hin => by
      obtain ⟨cs', hc, ht'⟩ := hi i (by omega)
      obtain ⟨x, hK, hw⟩ := hopen _ _ _ ht'
      obtain ⟨_, hcl, hat⟩ := World.cells?_some hc
      refine ⟨x, hw, cs', by rw [hcl, hsz], hK, fun j u hu => ?_⟩
      have hj : j < cs'.length := (List.getElem?_eq_some_iff.1 hu).1
      have := hat j (by omega)
      rw [hu, hsz] at this
      rw [← Go.Deep.add_add]
      exact this)
    unfold maxLen at hm
    refine ⟨hl, by unfold maxLen; omega, xs, hxl, fun x hx => ?_, hxl, by omega, fun _ => ⟨a, rfl, fun j p hj => ?_⟩⟩
    · obtain ⟨i, hi', rfl⟩ := List.getElem_of_mem hx
      exact (hq i _ (List.getElem?_eq_getElem hi')).1
    · obtain ⟨_, cs', h1, h2, h3⟩ := hq j p hj
      exact ⟨cs', h1, h2, h3⟩
theorem struct_parts {r : Reach} {b0 : Nat} {t : TypeId} {fs : Array Field} {v : Value} {d : DataW H} {p : List MemPlace} (hs : P.underlying t = some (.struct fs)) (m : Nat) (hC : P.cellsOf t = m) (hv : Value.okWide P w r b0 t v) (h : DataW.Trod enc P w base spare held t v d p) :
    ∃ cs : List Value, v = .agg cs.toArray ∧ cs.length = m ∧ ∀ (i : Nat) (f : Field), fs[i]? = some f → ∃ n y, DataW.trod enc P w base spare held n f.type ((cs.drop f.offset).take (P.cellsOf f.type)) = some y := by
  obtain ⟨cs, rfl, hsz⟩ := okWide_struct hs hv
  obtain ⟨fuel, hf⟩ := h
  obtain ⟨ys, n, _, _, hcl, hlen, hg⟩ := DataW.trod_struct hs hf
  refine ⟨_, ?_, hcl.trans hC, fun i f hi => ?_⟩
  · simp [Value.cells]
  · have hlt : i < fs.size := (Array.getElem?_eq_some_iff.1 hi).1
    have := hg i f hi
    rw [List.getElem?_eq_getElem (show i < ys.length by omega)] at this
    exact ⟨n, _, this⟩
theorem field_at {cs : List Value} {fs : Array Field} (fd : ∀ (i : Nat) (f : Field), fs[i]? = some f → ∃ n y, DataW.trod enc P w base spare held n f.type ((cs.drop f.offset).take (P.cellsOf f.type)) = some y)
    (i off sz : Nat) (ft : TypeId) (hi : (fs[i]?).map (fun f => (f.offset, f.type)) = some (off, ft)) (hz : P.cellsOf ft = sz) (part : List Value) (hp : (cs.drop off).take sz = part) : ∃ n y, DataW.trod enc P w base spare held n ft part = some y := by
  cases hf : fs[i]? with
  | none => rw [hf] at hi; cases hi
  | some f =>
    rw [hf] at hi
    simp only [Option.map_some, Option.some.injEq, Prod.mk.injEq] at hi
    obtain ⟨rfl, rfl⟩ := hi
    obtain ⟨n, y, h⟩ := fd i f hf
    rw [hz, hp] at h
    exact ⟨n, y, h⟩
theorem int_field {e : TypeId} (he : P.underlying e = some (.int .i64)) {c : Value} (h : ∃ n y, DataW.trod enc P w base spare held n e [c] = some y) : ∃ z : Int, c = .int .i64 z ∧ (Lit.int .i64 z).wf = true := by
  obtain ⟨n, y, h⟩ := h
  obtain ⟨z, hz, _, hw⟩ := DataW.trod_int he h
  injection hz with hz
  exact ⟨z, hz, hw⟩
theorem slice_field {t e : TypeId} (ht : P.underlying t = some (.slice e)) {c : Value} (h : ∃ n y, DataW.trod enc P w base spare held n t [c] = some y) : ∃ (A : Option Addr) (len cap : Nat) (d : DataW H) (p : List MemPlace), c = .slice A len cap ∧ DataW.Trod enc P w base spare held t (.slice A len cap) d p := by
  obtain ⟨n, y, h⟩ := h
  have h' := h
  rcases DataW.trod_slice ht h with ⟨hc, _⟩ | ⟨a, len, cap, _, _, _, _, hc, _⟩
  · injection hc with hc
    subst hc
    exact ⟨none, 0, 0, y.1, y.2, rfl, n, h'⟩
  · injection hc with hc
    subst hc
    exact ⟨some a, len, cap, y.1, y.2, rfl, n, h'⟩
theorem list6 {α : Type} {xs : List α} (h : xs.length = 6) : ∃ a0 a1 a2 a3 a4 a5, xs = [a0, a1, a2, a3, a4, a5] := by
  match xs, h with
  | [a0, a1, a2, a3, a4, a5], _ => exact ⟨a0, a1, a2, a3, a4, a5, rfl⟩
end
theorem own : ownKnob Try.prog.godebug = none := by kernel_rfl
theorem laidOut : laidOutB Try.prog = true := by kernel_rfl
set_option maxRecDepth 100000 in
theorem lifted (os : Os) (started : os.Started) (H : Type) (enc : TypeId × Value → H) :
    ReturnsInHanded {} Try.checked os 5 .any (Rows.fnExactNewStateSpec.pre6 enc Try.prog Try.f5 Rows.fnExactNewStateRow.domain false) (Rows.fnExactNewStateSpec.post enc Try.prog Try.f5 false true false false) := by
  refine returnsInHanded_of_change_sized (C := Try.checked) own started (by kernel_rfl) Try.func5
    (ChangeSpec.witness6 (enc := enc) (C := Try.checked) false ⟨#[], #[.agg #[.int .i64 0, .int .i64 0, .int .i64 0, .int .i64 0, .int .i64 0, .int .i64 0]], []⟩ 8 (by kernel_rfl) (by kernel_rfl) (by kernel_rfl) (by kernel_rfl)) ?_
  intro W base args ds gs before hval0 hW hcnd hsz0 _
  have hsz : (DataW.weightsEach Try.prog (Try.f5.params.toList ++ Rows.fnExactNewStateSpec.plain.varTypes Try.prog) (ds ++ gs)).all (· ≤ reachBytes) = true := hsz0
  have hval : ∀ (j : Nat) t v, Try.f5.params[j]? = some t → args[j]? = some v → Value.okWide Try.prog W .any base t v := hval0
  have hW' := hW
  obtain ⟨p, q, hA0, hV, rfl, hfz, hnd⟩ := hW
  have hA : DataW.TrodAll enc Try.prog W 0 (fun _ => true) true Try.f5.params.toList args.toList ds p := hA0
  rw [Try.params5] at hA hval hsz
  obtain ⟨v0, vs0, d0, ds0, p0, q0, hargs, rfl, rfl, h0, r0⟩ := trodAll_cons hA
  obtain ⟨rfl, rfl, rfl⟩ := trodAll_nil r0
  obtain rfl : args = #[v0] := by cases args; simp_all
  obtain ⟨rfl, rfl⟩ := trodVars_none hV
  have k0 := h0
  have lt0 : ∀ x ∈ p0, x.block < W.heap.size := by obtain ⟨m, hm⟩ := k0; exact DataW.trod_lt m _ _ _ hm
  obtain ⟨xs0, rfl, len0, wf0⟩ := ints_of_struct Try.underlying40 (by kernel_rfl) (by kernel_rfl) 6 (by kernel_rfl) Try.underlying3 (by kernel_rfl) (hval 0 40 v0 rfl rfl) h0
  obtain ⟨a0_0, a0_1, a0_2, a0_3, a0_4, a0_5, rfl⟩ := list6 len0
  have w0_0 := wf0 a0_0 (by simp)
  have w0_1 := wf0 a0_1 (by simp)
  have w0_2 := wf0 a0_2 (by simp)
  have w0_3 := wf0 a0_3 (by simp)
  have w0_4 := wf0 a0_4 (by simp)
  have w0_5 := wf0 a0_5 (by simp)
  clear hA0 hval0 hsz0
  obtain ⟨k, hp⟩ := Pure.FnExactNewState a0_0 a0_1 a0_2 a0_3 a0_4 a0_5 w0_0 w0_1 w0_2 w0_3 w0_4 w0_5
  refine (GFnExactNewState.laws_FnExactNewState.calls k a0_0 a0_1 a0_2 a0_3 a0_4 a0_5 true W hp).mono ?_
  rintro e W' ⟨rfl, bel0⟩
  have bel : Below W.heap.size W W' := by first | exact bel0 | exact bel0.below
  exact ⟨_, rfl, _, _, _, [], _, [], hW', trodAll_mk1 (shut_bool Try.underlying4 _), (trodAll_cons_mk (Below.trod laidOut (by kernel_rfl) (of_decide_eq_true (by kernel_rfl)) k0 bel lt0) trodAll_mk0), rfl, bel.frame _, fun h => by cases h⟩
theorem over : Rows.fnExactNewStateRow.holds Try.pinned (OpenSpec.ofChange Rows.fnExactNewStateSpec) :=
  OpenClaim.holds_of_wide 5 Try.f5 rfl rfl rfl rfl rfl rfl rfl ⟨rfl, rfl, rfl, rfl, rfl⟩ rfl rfl rfl rfl rfl (by kernel_rfl) Try.func5 (by kernel_rfl)
    (of_decide_eq_true (by kernel_rfl)) (by unfold Func.isWrapper; first | (rw [if_pos (by decide +kernel)]; kernel_rfl) | (rw [if_neg (by decide +kernel)]; exact ⟨rfl, rfl⟩))
    (fun os started H enc _ => lifted os started H enc)
theorem proved : Rows.FnExactNewStateSaid := over
#print axioms proved
end Go.Proofs.Ytamlpnfnidkknaa.fnExactNewState
namespace Go.Proofs.Ytamlpnfnidkknaa
/-- The row, under a short name, for the claim. -/
theorem fnExactNewState_holds : Rows.FnExactNewStateSaid := fnExactNewState.proved
end Go.Proofs.Ytamlpnfnidkknaa
