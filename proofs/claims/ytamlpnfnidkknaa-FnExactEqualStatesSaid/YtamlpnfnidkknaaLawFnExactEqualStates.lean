/- The row of the law FnExactEqualStates: for every input that can be read it returns true and leaves its arguments as they were. No condition. -/
import Derived.Test.YtamlpnfnidkknaaRows
import Derived.Test.YtamlpnfnidkknaaGFnExactEqualStatesx19
import Derived.Test.YtamlpnfnidkknaaPureFnExactEqualStates
import Derived.WalkKit
import Derived.ProofKit
import Derived.OpenShut
import Derived.ShutString
import Derived.ChangeOld
import Derived.Below
import Derived.SizedLaws
import Derived.Deep.Fields
import Derived.Deep.Slices
import Derived.Lib.SmallJoins
import Derived.Test.YtamlpnfnidkknaaVFnExactEqualStatesSized
set_option linter.unusedVariables false
set_option linter.unusedSimpArgs false
namespace Go.Proofs.Ytamlpnfnidkknaa.fnExactEqualStates
open Go.ChangeShapes Go.WideShapes Go.ChangeAt Go.RowKit Go.Deep Go.Proofs.YtamlpnfnidkknaaW.PrintWords
open Go.ChangeMaps (open_string shut_string)
section
variable {H : Type} {enc : TypeId × Value → H} {P : Program} {w : World} {base : Nat} {spare : Nat → Bool} {held : Bool}
theorem ints_of_trod {t e : TypeId} {fs : Array Field} {fuel : Nat} {cs : List Value} {x : DataW H × List MemPlace} (hs : P.underlying t = some (.struct fs)) (hone : oneCellFields P fs = true) (hC : P.cellsOf t = fs.size)
    (m : Nat) (hm : fs.size = m) (he : P.underlying e = some (.int .i64)) (hk : (fs.toList.all fun f => f.type == e) = true) (h : DataW.trod enc P w base spare held fuel t cs = some x) :
    ∃ xs : List Int, cs = xs.map (fun x => Value.int .i64 x) ∧ xs.length = m ∧ ∀ x ∈ xs, (Lit.int .i64 x).wf = true := by
  subst hm
  obtain ⟨ys, n, _, _, hcl, hlen, hg⟩ := DataW.trod_struct hs h
  have key : ∀ i (hi : i < cs.length), ∃ z : Int, cs[i] = .int .i64 z ∧ (Lit.int .i64 z).wf = true := by
    intro i hi
    have hi' : i < fs.size := by omega
    have hfi : fs[i]? = some fs[i] := Array.getElem?_eq_getElem hi'
    obtain ⟨ho, hk1⟩ := hone_of hone i _ hfi
    have hg1 := hg i _ hfi
    have hty : fs[i].type = e := by
      have := List.all_eq_true.1 hk fs[i] (Array.getElem_mem_toList hi')
      simpa using this
    rw [ho, hk1, hty] at hg1
    obtain ⟨y, hy⟩ : ∃ y, ys[i]? = some y := ⟨_, List.getElem?_eq_getElem (by omega)⟩
    rw [hy] at hg1
    obtain ⟨z, hz, _, hw⟩ := DataW.trod_int he hg1
    refine ⟨z, ?_, hw⟩
    have e2 : (cs.drop i).take 1 = [cs[i]] := by
      rw [List.drop_eq_getElem_cons hi, List.take_succ_cons, List.take_zero]
    rw [e2] at hz
    injection hz
  refine ⟨cs.map fun v => match v with | .int _ z => z | _ => 0, ?_, by simp; omega, ?_⟩
  · rw [List.map_map]
    apply List.ext_getElem
    · simp
    · intro i h1 h2
      obtain ⟨z, hz, _⟩ := key i h1
      simp [hz]
  · intro x hx
    obtain ⟨v, hv, rfl⟩ := List.mem_map.1 hx
    obtain ⟨i, hi, rfl⟩ := List.getElem_of_mem hv
    obtain ⟨z, hz, hw⟩ := key i hi
    simp only [hz]
    exact hw
theorem ints_of_struct {r : Reach} {b0 : Nat} {t e : TypeId} {fs : Array Field} {v : Value} {d : DataW H} {p : List MemPlace} (hs : P.underlying t = some (.struct fs)) (hone : oneCellFields P fs = true) (hC : P.cellsOf t = fs.size)
    (m : Nat) (hm : fs.size = m) (he : P.underlying e = some (.int .i64)) (hk : (fs.toList.all fun f => f.type == e) = true) (hv : Value.okWide P w r b0 t v) (h : DataW.Trod enc P w base spare held t v d p) :
    ∃ xs : List Int, v = .agg (xs.map fun x => Value.int .i64 x).toArray ∧ xs.length = m ∧ ∀ x ∈ xs, (Lit.int .i64 x).wf = true := by
  obtain ⟨cs, rfl, hsz⟩ := okWide_struct hs hv
  obtain ⟨fuel, hf⟩ := h
  obtain ⟨xs, hx, hl, hw⟩ := ints_of_trod hs hone hC m hm he hk hf
  refine ⟨xs, ?_, hl, hw⟩
  rw [← hx]
  simp [Value.cells]
theorem opens_int {e : TypeId} {k : IntKind} (he : P.underlying e = some (.int k)) (fuel : Nat) (cs : List Value) (x : DataW H × List MemPlace) (h : DataW.trod enc P w base spare held fuel e cs = some x) : ∃ a : Int, (Kd.int k).K w a cs ∧ (Lit.int k a).wf = true := by
  obtain ⟨n, rfl, _, hw⟩ := DataW.trod_int he h
  exact ⟨n, rfl, hw⟩
theorem list_all {α : Type} {Q : Nat → α → Prop} : ∀ n : Nat, (∀ i, i < n → ∃ x, Q i x) → ∃ xs : List α, xs.length = n ∧ ∀ i x, xs[i]? = some x → Q i x
  | 0, _ => ⟨[], rfl, fun i x h => by simp at h⟩
  | n + 1, h => by
    obtain ⟨xs, hl, hq⟩ := list_all n (fun i hi => h i (by omega))
    obtain ⟨y, hy⟩ := h n (by omega)
    refine ⟨xs ++ [y], by simp [hl], fun i x hx => ?_⟩
    rcases Nat.lt_or_ge i xs.length with hi | hi
    · rw [List.getElem?_append_left hi] at hx
      exact hq i x hx
    · rw [List.getElem?_append_right hi] at hx
      have : i - xs.length = 0 := by
        rcases Nat.eq_zero_or_pos (i - xs.length) with h0 | h0
        · exact h0
        · rw [List.getElem?_eq_none (by simp; omega)] at hx
          cases hx
      rw [this] at hx
      simp at hx
      subst hx
      rw [show i = n by omega]
      exact hy
theorem C_of_slice {α : Type} (d : Kd α) (wfp : α → Prop) {t e : TypeId} {A : Option Addr} {n c : Nat} {d' : DataW H} {p : List MemPlace} (ht : P.underlying t = some (.slice e)) (hsz : P.cellsOf e = d.sz)
    (hopen : ∀ (fuel : Nat) (cs : List Value) (x : DataW H × List MemPlace), DataW.trod enc P w base spare held fuel e cs = some x → ∃ a, d.K w a cs ∧ wfp a) (h : DataW.Trod enc P w base spare held t (.slice A n c) d' p) :
    n ≤ c ∧ n ≤ maxLen ∧ ∃ xs : List α, xs.length = n ∧ (∀ a ∈ xs, wfp a) ∧ d.C w A n xs := by
  obtain ⟨fuel, hf⟩ := h
  rcases open_slice ht hf with ⟨h0, _⟩ | ⟨a, len, cap, m, f2, D, Pl, hcs, _, hl, hm, hmm, _, hi⟩
  · simp [Value.cells] at h0
    obtain ⟨rfl, rfl, rfl⟩ := h0
    exact ⟨Nat.le_refl _, Nat.zero_le _, [], rfl, fun _ h => by simp at h, rfl, by omega, fun h => by omega⟩
  · simp [Value.cells] at hcs
    obtain ⟨rfl, rfl, rfl⟩ := hcs
    have hnm : n ≤ m := by rw [hmm]; split <;> omega
    obtain ⟨xs, hxl, hq⟩ := list_all (Q := fun i x => wfp x ∧ ∃ cs', cs'.length = d.sz ∧ d.K w x cs' ∧ ∀ j u, cs'[j]? = some u → w.cell? (a.add (i * d.sz + j)) = some u) n (fun i hin => by
      obtain ⟨cs', hc, ht'⟩ := hi i (by omega)
      obtain ⟨x, hK, hw⟩ := hopen _ _ _ ht'
      obtain ⟨_, hcl, hat⟩ := World.cells?_some hc
      refine ⟨x, hw, cs', by rw [hcl, hsz], hK, fun j u hu => ?_⟩
      have hj : j < cs'.length := (List.getElem?_eq_some_iff.1 hu).1
      have := hat j (by omega)
      rw [hu, hsz] at this
      rw [← Go.Deep.add_add]
      exact this)
    unfold maxLen at hm
    refine ⟨hl, by unfold maxLen; omega, xs, hxl, fun x hx => ?_, hxl, by omega, fun _ => ⟨a, rfl, fun j p hj => ?_⟩⟩
    · obtain ⟨i, hi', rfl⟩ := List.getElem_of_mem hx
      exact (hq i _ (List.getElem?_eq_getElem hi')).1
    · obtain ⟨_, cs', h1, h2, h3⟩ := hq j p hj
      exact ⟨cs', h1, h2, h3⟩
theorem struct_parts {r : Reach} {b0 : Nat} {t : TypeId} {fs : Array Field} {v : Value} {d : DataW H} {p : List MemPlace} (hs : P.underlying t = some (.struct fs)) (m : Nat) (hC : P.cellsOf t = m) (hv : Value.okWide P w r b0 t v) (h : DataW.Trod enc P w base spare held t v d p) :
    ∃ cs : List Value, v = .agg cs.toArray ∧ cs.length = m ∧ ∀ (i : Nat) (f : Field), fs[i]? = some f → ∃ n y, DataW.trod enc P w base spare held n f.type ((cs.drop f.offset).take (P.cellsOf f.type)) = some y := by
  obtain ⟨cs, rfl, hsz⟩ := okWide_struct hs hv
  obtain ⟨fuel, hf⟩ := h
  obtain ⟨ys, n, _, _, hcl, hlen, hg⟩ := DataW.trod_struct hs hf
  refine ⟨_, ?_, hcl.trans hC, fun i f hi => ?_⟩
  · simp [Value.cells]
  · have hlt : i < fs.size := (Array.getElem?_eq_some_iff.1 hi).1
    have := hg i f hi
    rw [List.getElem?_eq_getElem (show i < ys.length by omega)] at this
    exact ⟨n, _, this⟩
theorem field_at {cs : List Value} {fs : Array Field} (fd : ∀ (i : Nat) (f : Field), fs[i]? = some f → ∃ n y, DataW.trod enc P w base spare held n f.type ((cs.drop f.offset).take (P.cellsOf f.type)) = some y)
    (i off sz : Nat) (ft : TypeId) (hi : (fs[i]?).map (fun f => (f.offset, f.type)) = some (off, ft)) (hz : P.cellsOf ft = sz) (part : List Value) (hp : (cs.drop off).take sz = part) : ∃ n y, DataW.trod enc P w base spare held n ft part = some y := by
  cases hf : fs[i]? with
  | none => rw [hf] at hi; cases hi
  | some f =>
    rw [hf] at hi
    simp only [Option.map_some, Option.some.injEq, Prod.mk.injEq] at hi
    obtain ⟨rfl, rfl⟩ := hi
    obtain ⟨n, y, h⟩ := fd i f hf
    rw [hz, hp] at h
    exact ⟨n, y, h⟩
theorem int_field {e : TypeId} (he : P.underlying e = some (.int .i64)) {c : Value} (h : ∃ n y, DataW.trod enc P w base spare held n e [c] = some y) : ∃ z : Int, c = .int .i64 z ∧ (Lit.int .i64 z).wf = true := by
  obtain ⟨n, y, h⟩ := h
  obtain ⟨z, hz, _, hw⟩ := DataW.trod_int he h
  injection hz with hz
  exact ⟨z, hz, hw⟩
theorem slice_field {t e : TypeId} (ht : P.underlying t = some (.slice e)) {c : Value} (h : ∃ n y, DataW.trod enc P w base spare held n t [c] = some y) : ∃ (A : Option Addr) (len cap : Nat) (d : DataW H) (p : List MemPlace), c = .slice A len cap ∧ DataW.Trod enc P w base spare held t (.slice A len cap) d p := by
  obtain ⟨n, y, h⟩ := h
  have h' := h
  rcases DataW.trod_slice ht h with ⟨hc, _⟩ | ⟨a, len, cap, _, _, _, _, hc, _⟩
  · injection hc with hc
    subst hc
    exact ⟨none, 0, 0, y.1, y.2, rfl, n, h'⟩
  · injection hc with hc
    subst hc
    exact ⟨some a, len, cap, y.1, y.2, rfl, n, h'⟩
theorem list2 {α : Type} {xs : List α} (h : xs.length = 2) : ∃ a0 a1, xs = [a0, a1] := by
  match xs, h with
  | [a0, a1], _ => exact ⟨a0, a1, rfl⟩
theorem list3 {α : Type} {xs : List α} (h : xs.length = 3) : ∃ a0 a1 a2, xs = [a0, a1, a2] := by
  match xs, h with
  | [a0, a1, a2], _ => exact ⟨a0, a1, a2, rfl⟩
theorem list4 {α : Type} {xs : List α} (h : xs.length = 4) : ∃ a0 a1 a2 a3, xs = [a0, a1, a2, a3] := by
  match xs, h with
  | [a0, a1, a2, a3], _ => exact ⟨a0, a1, a2, a3, rfl⟩
theorem list6 {α : Type} {xs : List α} (h : xs.length = 6) : ∃ a0 a1 a2 a3 a4 a5, xs = [a0, a1, a2, a3, a4, a5] := by
  match xs, h with
  | [a0, a1, a2, a3, a4, a5], _ => exact ⟨a0, a1, a2, a3, a4, a5, rfl⟩
theorem list13 {α : Type} {xs : List α} (h : xs.length = 13) : ∃ a0 a1 a2 a3 a4 a5 a6 a7 a8 a9 a10 a11 a12, xs = [a0, a1, a2, a3, a4, a5, a6, a7, a8, a9, a10, a11, a12] := by
  match xs, h with
  | [a0, a1, a2, a3, a4, a5, a6, a7, a8, a9, a10, a11, a12], _ => exact ⟨a0, a1, a2, a3, a4, a5, a6, a7, a8, a9, a10, a11, a12, rfl⟩
theorem list16 {α : Type} {xs : List α} (h : xs.length = 16) : ∃ a0 a1 a2 a3 a4 a5 a6 a7 a8 a9 a10 a11 a12 a13 a14 a15, xs = [a0, a1, a2, a3, a4, a5, a6, a7, a8, a9, a10, a11, a12, a13, a14, a15] := by
  match xs, h with
  | [a0, a1, a2, a3, a4, a5, a6, a7, a8, a9, a10, a11, a12, a13, a14, a15], _ => exact ⟨a0, a1, a2, a3, a4, a5, a6, a7, a8, a9, a10, a11, a12, a13, a14, a15, rfl⟩
theorem list19 {α : Type} {xs : List α} (h : xs.length = 19) : ∃ a0 a1 a2 a3 a4 a5 a6 a7 a8 a9 a10 a11 a12 a13 a14 a15 a16 a17 a18, xs = [a0, a1, a2, a3, a4, a5, a6, a7, a8, a9, a10, a11, a12, a13, a14, a15, a16, a17, a18] := by
  match xs, h with
  | [a0, a1, a2, a3, a4, a5, a6, a7, a8, a9, a10, a11, a12, a13, a14, a15, a16, a17, a18], _ => exact ⟨a0, a1, a2, a3, a4, a5, a6, a7, a8, a9, a10, a11, a12, a13, a14, a15, a16, a17, a18, rfl⟩
end
section
variable {H : Type} {enc : TypeId × Value → H} {P : Program} {w : World} {base : Nat} {spare : Nat → Bool} {held : Bool}
theorem struct_trod {t : TypeId} {fs : Array Field} (hs : P.underlying t = some (.struct fs)) (m : Nat) (hC : P.cellsOf t = m) {fuel : Nat} {cs : List Value} {x : DataW H × List MemPlace} (h : DataW.trod enc P w base spare held fuel t cs = some x) :
    cs.length = m ∧ ∀ (i : Nat) (f : Field), fs[i]? = some f → ∃ n y, DataW.trod enc P w base spare held n f.type ((cs.drop f.offset).take (P.cellsOf f.type)) = some y := by
  obtain ⟨ys, n, _, _, hcl, hlen, hg⟩ := DataW.trod_struct hs h
  refine ⟨hcl.trans hC, fun i f hi => ?_⟩
  have hlt : i < fs.size := (Array.getElem?_eq_some_iff.1 hi).1
  have := hg i f hi
  rw [List.getElem?_eq_getElem (show i < ys.length by omega)] at this
  exact ⟨n, _, this⟩
end
section
variable {H : Type} {enc : TypeId × Value → H} {w : World} {base : Nat} {spare : Nat → Bool} {held : Bool}
def wf77 (x : GFnExactEqualStates.S77) : Prop := (Lit.int .i64 x.f0).wf = true ∧ (Lit.int .i64 x.f1).wf = true ∧ (Lit.int .i64 x.f2).wf = true ∧ (Lit.int .i64 x.f3).wf = true
theorem opens77 (fuel : Nat) (cs : List Value) (x : DataW H × List MemPlace) (h : DataW.trod enc Try.prog w base spare held fuel 77 cs = some x) : ∃ a : GFnExactEqualStates.S77, GFnExactEqualStates.k77.K w a cs ∧ wf77 a := by
  obtain ⟨zs, rfl, hl, hw⟩ := ints_of_trod Try.underlying77 (by kernel_rfl) (by kernel_rfl) 4 (by kernel_rfl) Try.underlying3 (by kernel_rfl) h
  obtain ⟨a0, a1, a2, a3, rfl⟩ := list4 hl
  exact ⟨⟨a0, a1, a2, a3⟩, GFnExactEqualStates.k77_mk w _, hw a0 (by simp), hw a1 (by simp), hw a2 (by simp), hw a3 (by simp)⟩
end
section
variable {H : Type} {enc : TypeId × Value → H} {w : World} {base : Nat} {spare : Nat → Bool} {held : Bool}
def wf29 (x : GFnExactEqualStates.S29) : Prop := GFnExactEqualStates.wfThr x
theorem opens29 (fuel : Nat) (cs : List Value) (x : DataW H × List MemPlace) (h : DataW.trod enc Try.prog w base spare held fuel 29 cs = some x) : ∃ a : GFnExactEqualStates.S29, GFnExactEqualStates.k29.K w a cs ∧ wf29 a := by
  obtain ⟨len, fd⟩ := struct_trod Try.underlying29 19 (by kernel_rfl) h
  obtain ⟨c0, c1, c2, c3, c4, c5, c6, c7, c8, c9, c10, c11, c12, c13, c14, c15, c16, c17, c18, rfl⟩ := list19 len
  obtain ⟨a0, e0, w0⟩ := int_field (c := c0) Try.underlying3 (field_at fd 0 0 1 3 rfl (by kernel_rfl) [c0] rfl)
  obtain ⟨fn1, fy1, ft1⟩ := (field_at fd 1 1 3 23 rfl (by kernel_rfl) [c1, c2, c3] rfl)
  obtain ⟨zs1, ez1, el1, ew1⟩ := ints_of_trod Try.underlying23 (by kernel_rfl) (by kernel_rfl) 3 (by kernel_rfl) Try.underlying3 (by kernel_rfl) ft1
  obtain ⟨a1, a2, a3, rfl⟩ := list3 el1
  simp only [List.map_cons, List.map_nil, List.cons.injEq, and_true] at ez1
  obtain ⟨e1, e2, e3⟩ := ez1
  obtain ⟨fn4, fy4, ft4⟩ := (field_at fd 2 4 2 25 rfl (by kernel_rfl) [c4, c5] rfl)
  obtain ⟨zs4, ez4, el4, ew4⟩ := ints_of_trod Try.underlying25 (by kernel_rfl) (by kernel_rfl) 2 (by kernel_rfl) Try.underlying3 (by kernel_rfl) ft4
  obtain ⟨a4, a5, rfl⟩ := list2 el4
  simp only [List.map_cons, List.map_nil, List.cons.injEq, and_true] at ez4
  obtain ⟨e4, e5⟩ := ez4
  obtain ⟨a6, e6, w6⟩ := int_field (c := c6) Try.underlying3 (field_at fd 3 6 1 3 rfl (by kernel_rfl) [c6] rfl)
  obtain ⟨a7, e7, w7⟩ := int_field (c := c7) Try.underlying3 (field_at fd 4 7 1 3 rfl (by kernel_rfl) [c7] rfl)
  obtain ⟨a8, e8, w8⟩ := int_field (c := c8) Try.underlying3 (field_at fd 5 8 1 3 rfl (by kernel_rfl) [c8] rfl)
  obtain ⟨a9, e9, w9⟩ := int_field (c := c9) Try.underlying3 (field_at fd 6 9 1 3 rfl (by kernel_rfl) [c9] rfl)
  obtain ⟨a10, e10, w10⟩ := int_field (c := c10) Try.underlying3 (field_at fd 7 10 1 3 rfl (by kernel_rfl) [c10] rfl)
  obtain ⟨a11, e11, w11⟩ := int_field (c := c11) Try.underlying3 (field_at fd 8 11 1 3 rfl (by kernel_rfl) [c11] rfl)
  obtain ⟨a12, e12, w12⟩ := int_field (c := c12) Try.underlying3 (field_at fd 9 12 1 3 rfl (by kernel_rfl) [c12] rfl)
  obtain ⟨a13, e13, w13⟩ := int_field (c := c13) Try.underlying3 (field_at fd 10 13 1 3 rfl (by kernel_rfl) [c13] rfl)
  obtain ⟨A14, n14, cap14, dd14, pp14, e14, T14⟩ := slice_field (c := c14) Try.underlying26 (field_at fd 11 14 1 26 rfl (by kernel_rfl) [c14] rfl)
  obtain ⟨hc14, hm14, l14, hl14, hw14, hr14⟩ := C_of_slice (Kd.int .i64) (fun z => (Lit.int .i64 z).wf = true) Try.underlying26 (by kernel_rfl) (fun fuel cs x hx => opens_int Try.underlying3 fuel cs x hx) T14
  subst hl14
  obtain ⟨A15, n15, cap15, dd15, pp15, e15, T15⟩ := slice_field (c := c15) Try.underlying26 (field_at fd 12 15 1 26 rfl (by kernel_rfl) [c15] rfl)
  obtain ⟨hc15, hm15, l15, hl15, hw15, hr15⟩ := C_of_slice (Kd.int .i64) (fun z => (Lit.int .i64 z).wf = true) Try.underlying26 (by kernel_rfl) (fun fuel cs x hx => opens_int Try.underlying3 fuel cs x hx) T15
  subst hl15
  obtain ⟨A16, n16, cap16, dd16, pp16, e16, T16⟩ := slice_field (c := c16) Try.underlying27 (field_at fd 13 16 1 27 rfl (by kernel_rfl) [c16] rfl)
  obtain ⟨hc16, hm16, l16, hl16, hw16, hr16⟩ := C_of_slice GFnExactEqualStates.k77 wf77 Try.underlying27 (by kernel_rfl) (fun fuel cs x hx => opens77 fuel cs x hx) T16
  subst hl16
  obtain ⟨A17, n17, cap17, dd17, pp17, e17, T17⟩ := slice_field (c := c17) Try.underlying27 (field_at fd 14 17 1 27 rfl (by kernel_rfl) [c17] rfl)
  obtain ⟨hc17, hm17, l17, hl17, hw17, hr17⟩ := C_of_slice GFnExactEqualStates.k77 wf77 Try.underlying27 (by kernel_rfl) (fun fuel cs x hx => opens77 fuel cs x hx) T17
  subst hl17
  obtain ⟨A18, n18, cap18, dd18, pp18, e18, T18⟩ := slice_field (c := c18) Try.underlying26 (field_at fd 15 18 1 26 rfl (by kernel_rfl) [c18] rfl)
  obtain ⟨hc18, hm18, l18, hl18, hw18, hr18⟩ := C_of_slice (Kd.int .i64) (fun z => (Lit.int .i64 z).wf = true) Try.underlying26 (by kernel_rfl) (fun fuel cs x hx => opens_int Try.underlying3 fuel cs x hx) T18
  subst hl18
  subst e0 e1 e2 e3 e4 e5 e6 e7 e8 e9 e10 e11 e12 e13 e14 e15 e16 e17 e18
  exact ⟨⟨a0, ⟨a1, a2, a3⟩, ⟨a4, a5⟩, a6, a7, a8, a9, a10, a11, a12, a13, l14, l15, l16, l17, l18⟩, GFnExactEqualStates.k29_mk w _ hc14 hr14 hc15 hr15 hc16 hr16 hc17 hr17 hc18 hr18, ⟨hm14, hm15, hm16, hm17, hm18⟩⟩
end
theorem own : ownKnob Try.prog.godebug = none := by kernel_rfl
theorem laidOut : laidOutB Try.prog = true := by kernel_rfl
set_option maxRecDepth 100000 in
theorem lifted (os : Os) (started : os.Started) (H : Type) (enc : TypeId × Value → H) :
    ReturnsInHanded {} Try.checked os 4 .any (Rows.fnExactEqualStatesSpec.pre6 enc Try.prog Try.f4 Rows.fnExactEqualStatesRow.domain false) (Rows.fnExactEqualStatesSpec.post enc Try.prog Try.f4 false true false false) := by
  refine returnsInHanded_of_change_sized (C := Try.checked) own started (by kernel_rfl) Try.func4
    (ChangeSpec.witness6 (enc := enc) (C := Try.checked) false ⟨#[], #[.agg #[.int .i64 0, .int .i64 0, .int .i64 0, .int .i64 0, .int .i64 0, .int .i64 0, .slice none 0 0, .slice none 0 0, .slice none 0 0, .int .i64 0, .int .i64 0, .int .i64 0, .int .i64 0], .agg #[.int .i64 0, .int .i64 0, .int .i64 0, .int .i64 0, .int .i64 0, .int .i64 0, .slice none 0 0, .slice none 0 0, .slice none 0 0, .int .i64 0, .int .i64 0, .int .i64 0, .int .i64 0]], []⟩ 8 (by kernel_rfl) (by kernel_rfl) (by kernel_rfl) (by kernel_rfl)) ?_
  intro W base args ds gs before hval0 hW hcnd hsz0 _
  have hsz : (DataW.weightsEach Try.prog (Try.f4.params.toList ++ Rows.fnExactEqualStatesSpec.plain.varTypes Try.prog) (ds ++ gs)).all (· ≤ reachBytes) = true := hsz0
  have hval : ∀ (j : Nat) t v, Try.f4.params[j]? = some t → args[j]? = some v → Value.okWide Try.prog W .any base t v := hval0
  have hW' := hW
  obtain ⟨p, q, hA0, hV, rfl, hfz, hnd⟩ := hW
  have hA : DataW.TrodAll enc Try.prog W 0 (fun _ => true) true Try.f4.params.toList args.toList ds p := hA0
  rw [Try.params4] at hA hval hsz
  obtain ⟨v0, vs0, d0, ds0, p0, q0, hargs, rfl, rfl, h0, r0⟩ := trodAll_cons hA
  obtain ⟨v1, vs1, d1, ds1, p1, q1, rfl, rfl, rfl, h1, r1⟩ := trodAll_cons r0
  obtain ⟨rfl, rfl, rfl⟩ := trodAll_nil r1
  obtain rfl : args = #[v0, v1] := by cases args; simp_all
  obtain ⟨rfl, rfl⟩ := trodVars_none hV
  have k0 := h0
  have lt0 : ∀ x ∈ p0, x.block < W.heap.size := by obtain ⟨m, hm⟩ := k0; exact DataW.trod_lt m _ _ _ hm
  obtain ⟨cs0, rfl, len0, fd0⟩ := struct_parts Try.underlying43 13 (by kernel_rfl) (hval 0 43 v0 rfl rfl) h0
  obtain ⟨c0_0, c0_1, c0_2, c0_3, c0_4, c0_5, c0_6, c0_7, c0_8, c0_9, c0_10, c0_11, c0_12, rfl⟩ := list13 len0
  obtain ⟨fn0_0, fy0_0, ft0_0⟩ := (field_at fd0 0 0 6 40 rfl (by kernel_rfl) [c0_0, c0_1, c0_2, c0_3, c0_4, c0_5] rfl)
  obtain ⟨zs0_0, ez0_0, el0_0, ew0_0⟩ := ints_of_trod Try.underlying40 (by kernel_rfl) (by kernel_rfl) 6 (by kernel_rfl) Try.underlying3 (by kernel_rfl) ft0_0
  obtain ⟨a0_0, a0_1, a0_2, a0_3, a0_4, a0_5, rfl⟩ := list6 el0_0
  simp only [List.map_cons, List.map_nil, List.cons.injEq, and_true] at ez0_0
  obtain ⟨e0_0, e0_1, e0_2, e0_3, e0_4, e0_5⟩ := ez0_0
  have w0_0 := ew0_0 a0_0 (by simp)
  have w0_1 := ew0_0 a0_1 (by simp)
  have w0_2 := ew0_0 a0_2 (by simp)
  have w0_3 := ew0_0 a0_3 (by simp)
  have w0_4 := ew0_0 a0_4 (by simp)
  have w0_5 := ew0_0 a0_5 (by simp)
  obtain ⟨A0_6, n0_6, cap0_6, dd0_6, pp0_6, e0_6, T0_6⟩ := slice_field (c := c0_6) Try.underlying26 (field_at fd0 1 6 1 26 rfl (by kernel_rfl) [c0_6] rfl)
  obtain ⟨hc0_6, hm0_6, l0_6, hl0_6, hw0_6, hr0_6⟩ := C_of_slice (Kd.int .i64) (fun z => (Lit.int .i64 z).wf = true) Try.underlying26 (by kernel_rfl) (fun fuel cs x hx => opens_int Try.underlying3 fuel cs x hx) T0_6
  subst hl0_6
  obtain ⟨A0_7, n0_7, cap0_7, dd0_7, pp0_7, e0_7, T0_7⟩ := slice_field (c := c0_7) Try.underlying26 (field_at fd0 2 7 1 26 rfl (by kernel_rfl) [c0_7] rfl)
  obtain ⟨hc0_7, hm0_7, l0_7, hl0_7, hw0_7, hr0_7⟩ := C_of_slice (Kd.int .i64) (fun z => (Lit.int .i64 z).wf = true) Try.underlying26 (by kernel_rfl) (fun fuel cs x hx => opens_int Try.underlying3 fuel cs x hx) T0_7
  subst hl0_7
  obtain ⟨A0_8, n0_8, cap0_8, dd0_8, pp0_8, e0_8, T0_8⟩ := slice_field (c := c0_8) Try.underlying41 (field_at fd0 3 8 1 41 rfl (by kernel_rfl) [c0_8] rfl)
  obtain ⟨hc0_8, hm0_8, l0_8, hl0_8, hw0_8, hr0_8⟩ := C_of_slice GFnExactEqualStates.k29 wf29 Try.underlying41 (by kernel_rfl) (fun fuel cs x hx => opens29 fuel cs x hx) T0_8
  subst hl0_8
  obtain ⟨a0_9, e0_9, w0_9⟩ := int_field (c := c0_9) Try.underlying3 (field_at fd0 4 9 1 3 rfl (by kernel_rfl) [c0_9] rfl)
  obtain ⟨a0_10, e0_10, w0_10⟩ := int_field (c := c0_10) Try.underlying3 (field_at fd0 5 10 1 3 rfl (by kernel_rfl) [c0_10] rfl)
  obtain ⟨a0_11, e0_11, w0_11⟩ := int_field (c := c0_11) Try.underlying3 (field_at fd0 6 11 1 3 rfl (by kernel_rfl) [c0_11] rfl)
  obtain ⟨a0_12, e0_12, w0_12⟩ := int_field (c := c0_12) Try.underlying3 (field_at fd0 7 12 1 3 rfl (by kernel_rfl) [c0_12] rfl)
  subst e0_0 e0_1 e0_2 e0_3 e0_4 e0_5 e0_6 e0_7 e0_8 e0_9 e0_10 e0_11 e0_12
  have k1 := h1
  have lt1 : ∀ x ∈ p1, x.block < W.heap.size := by obtain ⟨m, hm⟩ := k1; exact DataW.trod_lt m _ _ _ hm
  obtain ⟨cs1, rfl, len1, fd1⟩ := struct_parts Try.underlying43 13 (by kernel_rfl) (hval 1 43 v1 rfl rfl) h1
  obtain ⟨c1_0, c1_1, c1_2, c1_3, c1_4, c1_5, c1_6, c1_7, c1_8, c1_9, c1_10, c1_11, c1_12, rfl⟩ := list13 len1
  obtain ⟨fn1_0, fy1_0, ft1_0⟩ := (field_at fd1 0 0 6 40 rfl (by kernel_rfl) [c1_0, c1_1, c1_2, c1_3, c1_4, c1_5] rfl)
  obtain ⟨zs1_0, ez1_0, el1_0, ew1_0⟩ := ints_of_trod Try.underlying40 (by kernel_rfl) (by kernel_rfl) 6 (by kernel_rfl) Try.underlying3 (by kernel_rfl) ft1_0
  obtain ⟨a1_0, a1_1, a1_2, a1_3, a1_4, a1_5, rfl⟩ := list6 el1_0
  simp only [List.map_cons, List.map_nil, List.cons.injEq, and_true] at ez1_0
  obtain ⟨e1_0, e1_1, e1_2, e1_3, e1_4, e1_5⟩ := ez1_0
  have w1_0 := ew1_0 a1_0 (by simp)
  have w1_1 := ew1_0 a1_1 (by simp)
  have w1_2 := ew1_0 a1_2 (by simp)
  have w1_3 := ew1_0 a1_3 (by simp)
  have w1_4 := ew1_0 a1_4 (by simp)
  have w1_5 := ew1_0 a1_5 (by simp)
  obtain ⟨A1_6, n1_6, cap1_6, dd1_6, pp1_6, e1_6, T1_6⟩ := slice_field (c := c1_6) Try.underlying26 (field_at fd1 1 6 1 26 rfl (by kernel_rfl) [c1_6] rfl)
  obtain ⟨hc1_6, hm1_6, l1_6, hl1_6, hw1_6, hr1_6⟩ := C_of_slice (Kd.int .i64) (fun z => (Lit.int .i64 z).wf = true) Try.underlying26 (by kernel_rfl) (fun fuel cs x hx => opens_int Try.underlying3 fuel cs x hx) T1_6
  subst hl1_6
  obtain ⟨A1_7, n1_7, cap1_7, dd1_7, pp1_7, e1_7, T1_7⟩ := slice_field (c := c1_7) Try.underlying26 (field_at fd1 2 7 1 26 rfl (by kernel_rfl) [c1_7] rfl)
  obtain ⟨hc1_7, hm1_7, l1_7, hl1_7, hw1_7, hr1_7⟩ := C_of_slice (Kd.int .i64) (fun z => (Lit.int .i64 z).wf = true) Try.underlying26 (by kernel_rfl) (fun fuel cs x hx => opens_int Try.underlying3 fuel cs x hx) T1_7
  subst hl1_7
  obtain ⟨A1_8, n1_8, cap1_8, dd1_8, pp1_8, e1_8, T1_8⟩ := slice_field (c := c1_8) Try.underlying41 (field_at fd1 3 8 1 41 rfl (by kernel_rfl) [c1_8] rfl)
  obtain ⟨hc1_8, hm1_8, l1_8, hl1_8, hw1_8, hr1_8⟩ := C_of_slice GFnExactEqualStates.k29 wf29 Try.underlying41 (by kernel_rfl) (fun fuel cs x hx => opens29 fuel cs x hx) T1_8
  subst hl1_8
  obtain ⟨a1_9, e1_9, w1_9⟩ := int_field (c := c1_9) Try.underlying3 (field_at fd1 4 9 1 3 rfl (by kernel_rfl) [c1_9] rfl)
  obtain ⟨a1_10, e1_10, w1_10⟩ := int_field (c := c1_10) Try.underlying3 (field_at fd1 5 10 1 3 rfl (by kernel_rfl) [c1_10] rfl)
  obtain ⟨a1_11, e1_11, w1_11⟩ := int_field (c := c1_11) Try.underlying3 (field_at fd1 6 11 1 3 rfl (by kernel_rfl) [c1_11] rfl)
  obtain ⟨a1_12, e1_12, w1_12⟩ := int_field (c := c1_12) Try.underlying3 (field_at fd1 7 12 1 3 rfl (by kernel_rfl) [c1_12] rfl)
  subst e1_0 e1_1 e1_2 e1_3 e1_4 e1_5 e1_6 e1_7 e1_8 e1_9 e1_10 e1_11 e1_12
  clear hA0 hval0 hsz0
  obtain ⟨k, hp⟩ := Pure.FnExactEqualStates a0_0 a0_1 a0_2 a0_3 a0_4 a0_5 l0_6 l0_7 l0_8 a0_9 a0_10 a0_11 a0_12 a1_0 a1_1 a1_2 a1_3 a1_4 a1_5 l1_6 l1_7 l1_8 a1_9 a1_10 a1_11 a1_12 w0_0 w0_1 w0_2 w0_3 w0_4 w0_5 hm0_6 hw0_6 hm0_7 hw0_7 hm0_8 hw0_8 w0_9 w0_10 w0_11 w0_12 w1_0 w1_1 w1_2 w1_3 w1_4 w1_5 hm1_6 hw1_6 hm1_7 hw1_7 hm1_8 hw1_8 w1_9 w1_10 w1_11 w1_12
  refine (GFnExactEqualStates.laws_FnExactEqualStates.calls k a0_0 a0_1 a0_2 a0_3 a0_4 a0_5 A0_6 cap0_6 l0_6 A0_7 cap0_7 l0_7 A0_8 cap0_8 l0_8 a0_9 a0_10 a0_11 a0_12 a1_0 a1_1 a1_2 a1_3 a1_4 a1_5 A1_6 cap1_6 l1_6 A1_7 cap1_7 l1_7 A1_8 cap1_8 l1_8 a1_9 a1_10 a1_11 a1_12 true W hr0_6 hc0_6 hr0_7 hc0_7 hr0_8 hc0_8 hr1_6 hc1_6 hr1_7 hc1_7 hr1_8 hc1_8 hp).mono ?_
  rintro e W' ⟨rfl, bel0⟩
  have bel : Below W.heap.size W W' := by first | exact bel0 | exact bel0.below
  exact ⟨_, rfl, _, _, _, [], _, [], hW', trodAll_mk1 (shut_bool Try.underlying4 _), (trodAll_cons_mk (Below.trod laidOut (by kernel_rfl) (of_decide_eq_true (by kernel_rfl)) k0 bel lt0) (trodAll_cons_mk (Below.trod laidOut (by kernel_rfl) (of_decide_eq_true (by kernel_rfl)) k1 bel lt1) trodAll_mk0)), rfl, bel.frame _, fun h => by cases h⟩
theorem over : Rows.fnExactEqualStatesRow.holds Try.pinned (OpenSpec.ofChange Rows.fnExactEqualStatesSpec) :=
  OpenClaim.holds_of_wide 4 Try.f4 rfl rfl rfl rfl rfl rfl rfl ⟨rfl, rfl, rfl, rfl, rfl⟩ rfl rfl rfl rfl rfl (by kernel_rfl) Try.func4 (by kernel_rfl)
    (of_decide_eq_true (by kernel_rfl)) (by unfold Func.isWrapper; first | (rw [if_pos (by decide +kernel)]; kernel_rfl) | (rw [if_neg (by decide +kernel)]; exact ⟨rfl, rfl⟩))
    (fun os started H enc _ => lifted os started H enc)
theorem proved : Rows.FnExactEqualStatesSaid := over
#print axioms proved
end Go.Proofs.Ytamlpnfnidkknaa.fnExactEqualStates
namespace Go.Proofs.Ytamlpnfnidkknaa
/-- The row, under a short name, for the claim. -/
theorem fnExactEqualStates_holds : Rows.FnExactEqualStatesSaid := fnExactEqualStates.proved
end Go.Proofs.Ytamlpnfnidkknaa
