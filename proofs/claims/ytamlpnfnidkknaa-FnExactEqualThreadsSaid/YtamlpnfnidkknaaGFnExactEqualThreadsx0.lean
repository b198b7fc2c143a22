/- Of each Go function that the law FnExactEqualThreads reaches: a Lean function, and the proof that the call comes to just its answer; written by a turned copy of the kit's printer, with contracts typed by hand for functions that it does not take. No condition. -/
import Derived.Deep.MidRow
import Derived.Test.YtamlpnfnidkknaaProg
import Derived.Below
import Derived.Deep.Draws
import Derived.Deep.AppendLies
import Derived.Maps.AppendAt
import Derived.OwnWalk
import Derived.Laws.BytesArg
import Derived.Laws.MakeOwn
import Derived.Laws.OwnMore
import Derived.Deep.OwnRows
import Derived.Tactics
import Derived.Lib.ConvBytes
import Derived.Laws.Slices
import Derived.WalkKit
import Derived.KernelRfl
import Derived.RowKit3
import Derived.Deep.LoopGhost
import Derived.Deep.QuietTactic
import Derived.BigQuiet
import Derived.WideLaws
import Derived.Deep.DeepCutAuto
import Derived.Deep.CutBlock
import Derived.Deep.RegionHeld3
import Derived.Laws.Rows
import Derived.Lib.AppendStr
import Derived.ArgAppend
import Derived.Laws.IdiomCopy
import Derived.OrdersHeld
import Derived.Laws.BitsLemmas
import Derived.RowKit
import Derived.Test.YtamlpnfnidkknaaVFnExactEqualThreadsWords
import Derived.Test.YtamlpnfnidkknaaVFnExactEqualThreadsLast
import Derived.Test.YtamlpnfnidkknaaVFnExactEqualThreadsTab
import Derived.Test.YtamlpnfnidkknaaVFnExactEqualThreadsFour
import Derived.Test.YtamlpnfnidkknaaVFnExactEqualThreadsQPut
import Derived.Test.YtamlpnfnidkknaaVFnExactEqualThreadsApart
import Derived.Test.YtamlpnfnidkknaaVFnExactEqualThreadsArr
import Derived.Test.YtamlpnfnidkknaaVFnExactEqualThreadsZeros
import Derived.Test.YtamlpnfnidkknaaVFnExactEqualThreadsFoot
import Derived.Test.YtamlpnfnidkknaaVFnExactEqualThreadsKept
import Derived.Test.YtamlpnfnidkknaaVFnExactEqualThreadsShare
import Derived.Test.YtamlpnfnidkknaaVFnExactEqualThreadsN
import Derived.Test.YtamlpnfnidkknaaVFnExactEqualThreadsFootNe
import Derived.Test.YtamlpnfnidkknaaVFnExactEqualThreadsAt
import Derived.Test.YtamlpnfnidkknaaVFnExactEqualThreadsEqStruct
import Derived.Test.YtamlpnfnidkknaaVFnExactEqualThreadsRepsOne
import Derived.Test.YtamlpnfnidkknaaVFnExactEqualThreadsInv
import Derived.Test.YtamlpnfnidkknaaVFnExactEqualThreadsInvWords
import Derived.Test.YtamlpnfnidkknaaVFnExactEqualThreadsGuard
import Derived.Test.YtamlpnfnidkknaaVFnExactEqualThreadsNEv
import Derived.Test.YtamlpnfnidkknaaVFnExactEqualThreadsMore
namespace Go.Proofs.Ytamlpnfnidkknaa.GFnExactEqualThreads
open Go.RowKit Go.Proofs.YtamlpnfnidkknaaW.PrintWords Go.Proofs.YtamlpnfnidkknaaW.PrintLast Go.Proofs.YtamlpnfnidkknaaW.PrintMore
attribute [local go_sem] max2_int min2_int max_two min_two max_three min_three max_four min_four   -- for this text's walks alone
set_option linter.unusedVariables false
set_option linter.unusedSimpArgs false



def errW : Option Int → Value
  | none => .nilIface
  | some c => .iface 0 (.int .i64 c)
theorem errW_none : errW none = .nilIface := rfl
theorem errW_some (c : Int) : errW (some c) = .iface 0 (.int .i64 c) := rfl

theorem info3 : (Try.prog.info? 3).map (fun i => (i.zero, i.size, i.bytes)) = some (some (.int .i64 0), 1, 8) := by kernel_rfl
theorem info65 : (Try.prog.info? 65).map (fun i => (i.zero, i.size, i.bytes)) = some (some (.agg #[(.int .i64 0), (.int .i64 0), (.int .i64 0), (.int .i64 0)]), 4, 32) := by kernel_rfl
-- the values' own types
/-! #### struct type 77 -/
structure S77 where
  f0 : Int
  f1 : Int
  f2 : Int
  f3 : Int
def z77 : S77 := ⟨(0 : Int), (0 : Int), (0 : Int), (0 : Int)⟩
def k77 : Kd S77 := Kd.iso (Kd.pair (Kd.int .i64) (Kd.pair (Kd.int .i64) (Kd.pair (Kd.int .i64) (Kd.int .i64)))) (fun x : S77 => (x.f0, x.f1, x.f2, x.f3))
theorem k77_open {w : World} {x : S77} {cs : List Value} (h : k77.K w x cs) : cs = [.int .i64 x.f0, .int .i64 x.f1, .int .i64 x.f2, .int .i64 x.f3] := by
  obtain ⟨_, _, rfl, rfl, ⟨_, _, rfl, rfl, ⟨_, _, rfl, rfl, rfl⟩⟩⟩ := h
  exact rfl
theorem k77_openM {w : World} {base : Nat} {ok : Nat → Prop} {x : S77} {cs : List Value} (h : k77.M w base ok x cs) : cs = [.int .i64 x.f0, .int .i64 x.f1, .int .i64 x.f2, .int .i64 x.f3] := by
  obtain ⟨_, _, rfl, rfl, ⟨_, _, rfl, rfl, ⟨_, _, rfl, rfl, rfl⟩⟩⟩ := h
  exact rfl
theorem k77_mk (w : World) (x : S77)  : k77.K w x [.int .i64 x.f0, .int .i64 x.f1, .int .i64 x.f2, .int .i64 x.f3] := ⟨[.int .i64 x.f0], [.int .i64 x.f1, .int .i64 x.f2, .int .i64 x.f3], rfl, rfl, ⟨[.int .i64 x.f1], [.int .i64 x.f2, .int .i64 x.f3], rfl, rfl, ⟨[.int .i64 x.f2], [.int .i64 x.f3], rfl, rfl, rfl⟩⟩⟩
theorem k77_mkM (w : World) (base : Nat) (ok : Nat → Prop) (x : S77)  : k77.M w base ok x [.int .i64 x.f0, .int .i64 x.f1, .int .i64 x.f2, .int .i64 x.f3] := ⟨[.int .i64 x.f0], [.int .i64 x.f1, .int .i64 x.f2, .int .i64 x.f3], rfl, rfl, ⟨[.int .i64 x.f1], [.int .i64 x.f2, .int .i64 x.f3], rfl, rfl, ⟨[.int .i64 x.f2], [.int .i64 x.f3], rfl, rfl, rfl⟩⟩⟩
def rd_T77 (xs : List S77) (i : Int) : S77 := xs.getD i.toNat z77
theorem at_T77 {w : World} {A : Option Addr} {n : Nat} {xs : List S77} (h : Kd.C k77 w A n xs) (i : Int) (h0 : 0 ≤ i) (h1 : i < n) : ∃ ad , A = some ad ∧ w.cell? (ad.add (i.toNat * 4)) = some (.int .i64 (rd_T77 xs i).f0) ∧ w.cell? ⟨(ad.add (i.toNat * 4)).block, (ad.add (i.toNat * 4)).off + 1, none⟩ = some (.int .i64 (rd_T77 xs i).f1) ∧ w.cell? ⟨(ad.add (i.toNat * 4)).block, (ad.add (i.toNat * 4)).off + 2, none⟩ = some (.int .i64 (rd_T77 xs i).f2) ∧ w.cell? ⟨(ad.add (i.toNat * 4)).block, (ad.add (i.toNat * 4)).off + 3, none⟩ = some (.int .i64 (rd_T77 xs i).f3) := by
  obtain ⟨ad, c, e, _, hK, hc0⟩ := Kd.C_get h z77 i h0 h1
  have hc : ∀ j u, c[j]? = some u → w.cell? (ad.add (i.toNat * 4 + j)) = some u := hc0
  obtain rfl := k77_open hK
  exact ⟨ad, e, hc 0 _ rfl, by rw [← add_field _ _ 1 (by omega)]; exact hc 1 _ rfl, by rw [← add_field _ _ 2 (by omega)]; exact hc 2 _ rfl, by rw [← add_field _ _ 3 (by omega)]; exact hc 3 _ rfl⟩

/-! #### struct type 65 -/
structure S65 where
  f0 : Int
  f1 : Int
  f2 : Int
  f3 : Int
def z65 : S65 := ⟨(0 : Int), (0 : Int), (0 : Int), (0 : Int)⟩
def k65 : Kd S65 := Kd.iso (Kd.pair (Kd.int .i64) (Kd.pair (Kd.int .i64) (Kd.pair (Kd.int .i64) (Kd.int .i64)))) (fun x : S65 => (x.f0, x.f1, x.f2, x.f3))
theorem k65_open {w : World} {x : S65} {cs : List Value} (h : k65.K w x cs) : cs = [.int .i64 x.f0, .int .i64 x.f1, .int .i64 x.f2, .int .i64 x.f3] := by
  obtain ⟨_, _, rfl, rfl, ⟨_, _, rfl, rfl, ⟨_, _, rfl, rfl, rfl⟩⟩⟩ := h
  exact rfl
theorem k65_openM {w : World} {base : Nat} {ok : Nat → Prop} {x : S65} {cs : List Value} (h : k65.M w base ok x cs) : cs = [.int .i64 x.f0, .int .i64 x.f1, .int .i64 x.f2, .int .i64 x.f3] := by
  obtain ⟨_, _, rfl, rfl, ⟨_, _, rfl, rfl, ⟨_, _, rfl, rfl, rfl⟩⟩⟩ := h
  exact rfl
theorem k65_mk (w : World) (x : S65)  : k65.K w x [.int .i64 x.f0, .int .i64 x.f1, .int .i64 x.f2, .int .i64 x.f3] := ⟨[.int .i64 x.f0], [.int .i64 x.f1, .int .i64 x.f2, .int .i64 x.f3], rfl, rfl, ⟨[.int .i64 x.f1], [.int .i64 x.f2, .int .i64 x.f3], rfl, rfl, ⟨[.int .i64 x.f2], [.int .i64 x.f3], rfl, rfl, rfl⟩⟩⟩
theorem k65_mkM (w : World) (base : Nat) (ok : Nat → Prop) (x : S65)  : k65.M w base ok x [.int .i64 x.f0, .int .i64 x.f1, .int .i64 x.f2, .int .i64 x.f3] := ⟨[.int .i64 x.f0], [.int .i64 x.f1, .int .i64 x.f2, .int .i64 x.f3], rfl, rfl, ⟨[.int .i64 x.f1], [.int .i64 x.f2, .int .i64 x.f3], rfl, rfl, ⟨[.int .i64 x.f2], [.int .i64 x.f3], rfl, rfl, rfl⟩⟩⟩
def rd_T65 (xs : List S65) (i : Int) : S65 := xs.getD i.toNat z65
theorem at_T65 {w : World} {A : Option Addr} {n : Nat} {xs : List S65} (h : Kd.C k65 w A n xs) (i : Int) (h0 : 0 ≤ i) (h1 : i < n) : ∃ ad , A = some ad ∧ w.cell? (ad.add (i.toNat * 4)) = some (.int .i64 (rd_T65 xs i).f0) ∧ w.cell? ⟨(ad.add (i.toNat * 4)).block, (ad.add (i.toNat * 4)).off + 1, none⟩ = some (.int .i64 (rd_T65 xs i).f1) ∧ w.cell? ⟨(ad.add (i.toNat * 4)).block, (ad.add (i.toNat * 4)).off + 2, none⟩ = some (.int .i64 (rd_T65 xs i).f2) ∧ w.cell? ⟨(ad.add (i.toNat * 4)).block, (ad.add (i.toNat * 4)).off + 3, none⟩ = some (.int .i64 (rd_T65 xs i).f3) := by
  obtain ⟨ad, c, e, _, hK, hc0⟩ := Kd.C_get h z65 i h0 h1
  have hc : ∀ j u, c[j]? = some u → w.cell? (ad.add (i.toNat * 4 + j)) = some u := hc0
  obtain rfl := k65_open hK
  exact ⟨ad, e, hc 0 _ rfl, by rw [← add_field _ _ 1 (by omega)]; exact hc 1 _ rfl, by rw [← add_field _ _ 2 (by omega)]; exact hc 2 _ rfl, by rw [← add_field _ _ 3 (by omega)]; exact hc 3 _ rfl⟩

set_option linter.defProp false
def Ra := @Kd.R_alloc
def Rn := @Kd.R_drewN
def Rd := @Kd.R_drew
def Bn := @blk_drewN
def Bd := @blk_drew
def Ba := @blk_alloc
def Ca := @Kd.C_alloc
def Cn := @Kd.C_drewN
def Cd := @Kd.C_drew
def La := @below_alloc
def Ln := @pw_below_drewN
def Ld := @below_drew1
theorem blk_setN {g : Nat} {t : TypeId} : ∀ (vs : List Value) (pre : List Value) (old : List Value) (w : World), vs.length = old.length → w.heap[g]? = some (.cells (pre ++ old).toArray t (0, 0)) → (w.setCells g pre.length vs).heap[g]? = some (.cells (pre ++ vs).toArray t (0, 0))
  | [], pre, old, w, hl, h => by
    obtain rfl : old = [] := List.eq_nil_of_length_eq_zero (by simpa using hl.symm)
    exact h
  | v :: vs, pre, [], w, hl, h => by simp at hl
  | v :: vs, pre, u :: old, w, hl, h => by
    have h1 : (w.setCell ⟨g, pre.length, none⟩ v).heap[g]? = some (.cells ((pre ++ [v]) ++ old).toArray t (0, 0)) := blk_put h pre.length v (by simp)
    have h2 := blk_setN vs (pre ++ [v]) old _ (by simpa using hl) h1
    rw [List.append_assoc, List.singleton_append, List.length_append] at h2
    exact h2
theorem blk_there {w : World} {g : Nat} {t : TypeId} {cs : Array Value} (h : w.heap[g]? = some (.cells cs t (0, 0))) (n : Nat) (hn : n = cs.size) : w.there g 0 n := fun j hj => by
  rw [Nat.zero_add]
  exact ⟨by rw [blk_cell h j, Array.getElem?_eq_getElem (by omega)]; rfl, blk_frozen h j⟩
theorem R_farN {α : Type} {d : Kd α} {e base : Nat} {ok : Nat → Prop} {v : Value} {xs : List α} (g : Nat) : ∀ {w : World} (_ : d.R e w base ok v xs) (_ : ∀ k, ok k → k ≠ g) (vs : List Value) (o : Nat), d.R e (w.setCells g o vs) base ok v xs
  | _, h, _, [], _ => h
  | _, h, hne, u :: vs, o => R_farN g (Kd.R_far (p := ⟨g, o, none⟩) h hne u) hne vs (o + 1)
theorem below_setN {w : World} {g : Nat} (hg : w.heap.size ≤ g) : ∀ (vs : List Value) (o : Nat) (W : World), Below w.heap.size w W → Below w.heap.size w (W.setCells g o vs)
  | [], _, _, h => h
  | _ :: vs, o, _, h => below_setN hg vs (o + 1) _ (below_set h hg)
theorem store_whole {P : Program} {ops : Array Oper} {rest : List Oper} {o : Oper} {a : Act} {Q : Exit → Act → World → Prop} {W : World} (hgd : o.guard = none) (ty : TypeId) (x y : Operand) (ho : o.op = .store ty x y) (g : Nat) (cs cs0 : List Value) {t0 : TypeId}
    (hx : a.eval x = .pointer (some ⟨g, 0, none⟩)) (hy : a.eval y = .agg cs.toArray) (hb : W.heap[g]? = some (.cells cs0.toArray t0 (0, 0))) (hl : cs.length = cs0.length) (hi : (P.info? ty).map (·.size) = some cs.length) (h1 : ∀ v ∈ cs, v.oneCell' = true)
    (h : (W.setCells g 0 cs).heap[g]? = some (.cells cs.toArray t0 (0, 0)) → wpList P ops Q rest (a.put o.dst undef) (W.setCells g 0 cs)) : wpList P ops Q (o :: rest) a W :=
  wpList_store_mid hgd ty x y ho g 0 cs.toArray hx hy (blk_there hb _ (by simp [hl])) (by simpa using hi) (all_oneCell_toArray h1) (h (by simpa using blk_setN cs [] cs0 W hl (by simpa using hb)))
theorem blk_range {w : World} {g : Nat} {t : TypeId} {cs : List Value} (h : w.heap[g]? = some (.cells cs.toArray t (0, 0))) : w.rangeAt g 0 cs := fun j v hv => by
  rw [Nat.zero_add]
  exact (blk_cell h j).trans (by simpa using hv)
theorem run_load_whole {P : Program} {op : Oper} {a : Act} {w : World} (g : Nat) {cs : List Value} {t0 : TypeId} (hb : w.heap[g]? = some (.cells cs.toArray t0 (0, 0))) (ty : TypeId) (x : Operand) (ho : op.op = .load ty x) (hx : a.eval x = .pointer (some ⟨g, 0, none⟩)) (d : TypeDesc)
    (hu : P.underlying ty = some d) (hd : d.isRow = true) (hi : (P.info? ty).map (·.size) = some cs.length) : (execOp a.eval op).run P w = .ok (.value (.agg cs.toArray)) w := by
  unfold execOp
  simp only [ho, hx, Instr.loadAt, Instr.sureAddr, Sem.run_bind, Sem.run_pure, Result.andThen_ok, run_loadVar_mid w g 0 ty cs d (blk_range hb) hu hd hi]
theorem load_whole {P : Program} {ops : Array Oper} {rest : List Oper} {o : Oper} {a : Act} {Q : Exit → Act → World → Prop} {W : World} (g : Nat) {cs : List Value} {t0 : TypeId} (hb : W.heap[g]? = some (.cells cs.toArray t0 (0, 0))) (hgd : o.guard = none) (ty : TypeId) (x : Operand) (ho : o.op = .load ty x)
    (hx : a.eval x = .pointer (some ⟨g, 0, none⟩)) (d : TypeDesc) (hu : P.underlying ty = some d) (hd : d.isRow = true) (hi : (P.info? ty).map (·.size) = some cs.length) (h : wpList P ops Q rest (a.put o.dst (.agg cs.toArray)) W) : wpList P ops Q (o :: rest) a W :=
  wpList_load_mid hgd ty x ho g 0 hx cs d (blk_range hb) hu hd hi h
theorem blk_setN0 {w : World} {g : Nat} {t : TypeId} {cs0 vs : List Value} (h : w.heap[g]? = some (.cells cs0.toArray t (0, 0))) (hl : vs.length = cs0.length) : (w.setCells g 0 vs).heap[g]? = some (.cells vs.toArray t (0, 0)) := by simpa using blk_setN vs [] cs0 w hl (by simpa using h)
theorem blk_farN {g g' : Nat} {t : TypeId} {cs : Array Value} : ∀ {w : World} (_ : w.heap[g]? = some (.cells cs t (0, 0))) (_ : g ≠ g') (vs : List Value) (o : Nat), (w.setCells g' o vs).heap[g]? = some (.cells cs t (0, 0))
  | _, h, _, [], _ => h
  | _, h, hne, u :: vs, o => blk_farN (blk_far (p := ⟨g', o, none⟩) h hne u) hne vs (o + 1)
end Go.Proofs.Ytamlpnfnidkknaa.GFnExactEqualThreads
