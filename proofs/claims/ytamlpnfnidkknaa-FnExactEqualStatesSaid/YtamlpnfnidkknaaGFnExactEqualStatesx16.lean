/- Of the Go function slices.EqualFunc at the program's threads and EqualThreads: a Lean function, and the proof that the call comes to just its answer. Typed by hand. No condition. -/
import Derived.Shelf.Abstract
import Derived.Test.YtamlpnfnidkknaaGFnExactEqualStatesx0
import Derived.Test.YtamlpnfnidkknaaGFnExactEqualStatesx14
namespace Go.Proofs.Ytamlpnfnidkknaa.GFnExactEqualStates
open Go.RowKit Go.Proofs.YtamlpnfnidkknaaW.PrintWords Go.Proofs.YtamlpnfnidkknaaW.PrintLast Go.Proofs.YtamlpnfnidkknaaW.PrintMore
set_option linter.unusedVariables false
set_option linter.unusedSimpArgs false

def slices_EqualFunc.l0 : Nat → List S36 → List S36 → Int → Option Bool
  | 0, _, _, _ => none
  | k + 1, x0, x1, i => if i < (x0.length : Int) then (if 0 ≤ i then (if i < (x1.length : Int) then ((impl_EqualThreads.f k ((rd_T36 x0 i).f0) ((rd_T36 x0 i).f1.f0) ((rd_T36 x0 i).f1.f1) ((rd_T36 x0 i).f1.f2) ((rd_T36 x0 i).f2.f0) ((rd_T36 x0 i).f2.f1) ((rd_T36 x0 i).f3) ((rd_T36 x0 i).f4) ((rd_T36 x0 i).f5) ((rd_T36 x0 i).f6) ((rd_T36 x0 i).f7) ((rd_T36 x0 i).f8) ((rd_T36 x0 i).f9) ((rd_T36 x0 i).f10) ((rd_T36 x0 i).f11) ((rd_T36 x0 i).f12) ((rd_T36 x0 i).f13) ((rd_T36 x0 i).f14) ((rd_T36 x0 i).f15) ((rd_T36 x1 i).f0) ((rd_T36 x1 i).f1.f0) ((rd_T36 x1 i).f1.f1) ((rd_T36 x1 i).f1.f2) ((rd_T36 x1 i).f2.f0) ((rd_T36 x1 i).f2.f1) ((rd_T36 x1 i).f3) ((rd_T36 x1 i).f4) ((rd_T36 x1 i).f5) ((rd_T36 x1 i).f6) ((rd_T36 x1 i).f7) ((rd_T36 x1 i).f8) ((rd_T36 x1 i).f9) ((rd_T36 x1 i).f10) ((rd_T36 x1 i).f11) ((rd_T36 x1 i).f12) ((rd_T36 x1 i).f13) ((rd_T36 x1 i).f14) ((rd_T36 x1 i).f15)).bind fun t => if t = true then slices_EqualFunc.l0 k x0 x1 (wrap64 (i + 1)) else some false) else none) else none) else some true
def slices_EqualFunc.f (k : Nat) (l0 l1 : List S36) : Option Bool := if (l0.length : Int) = (l1.length : Int) then slices_EqualFunc.l0 k l0 l1 0 else some false
set_option maxHeartbeats 4000000 in
set_option maxRecDepth 100000 in
theorem slices_EqualFunc.calls (k : Nat) (A0 : Option Addr) (c0 : Nat) (l0 : List S36) (A1 : Option Addr) (c1 : Nat) (l1 : List S36) (r : Bool) (w : World) (hr0 : Kd.C k36 w A0 l0.length l0) (hr1 : Kd.C k36 w A1 l1.length l1) (h : slices_EqualFunc.f k l0 l1 = some r) :
    Calls Try.prog 37 #[.slice A0 l0.length c0, .slice A1 l1.length c1, .func (.func 9) #[] #[]] w fun e w' => e = .returned (.bool r) ∧ Below w.heap.size w w' := by
  have hu36 := Try.underlying36
  have eg : ∀ args w, (callFunc 9 args).run Try.prog w = .ok (.enter 9 args) w := enters_of Try.func9 (by kernel_rfl) rfl
  have HR := Aside0.mk hr0
  have HS := Aside0.mk hr1
  have HB := Aside0.mk (Below.refl w.heap.size w)
  clear hr0 hr1
  unfold slices_EqualFunc.f at h
  by_cases c3 : (l0.length : Int) = (l1.length : Int)
  · rw [if_pos c3] at h
    have c3b0 : ((l0.length : Int) == (l1.length : Int)) = true := beq_iff_eq.mpr c3
    have c3b1 : ((l0.length : Int) != (l1.length : Int)) = false := bne_eq_false_iff_eq.mpr c3
    have c3b2 : (l0.length == l1.length) = true := by first | simpa using c3 | (simp at c3 ⊢; omega)
    have H' := Aside0.mk h
    clear c3 h
    go_enter Try.func37, Try.ntmps37
    go_wp2
    go_loopg [17] k (fun kq v17 w' => ∃ x17 : Int, v17 = .int .i64 x17 ∧ Aside0 (slices_EqualFunc.l0 kq l0 l1 x17 = some r) ∧ Aside0 (kq ≤ k) ∧ Aside0 (Below w.heap.size w w'))
    case atStart => exact ⟨_, rfl, H', ⟨Nat.le_refl _⟩, HB⟩
    case round =>
      clear H' HB c3b0 c3b1 c3b2
      obtain ⟨x17, rfl, HA, HK1, HB⟩ := hrel
      cases gk with
      | zero => exact absurd HA.out (by simp [slices_EqualFunc.l0])
      | succ k1 =>
        have H := HA.out
        clear HA
        rw [slices_EqualFunc.l0] at H
        by_cases c3 : x17 < (l0.length : Int)
        · rw [if_pos c3] at H
          by_cases c4 : 0 ≤ x17
          · rw [if_pos c4] at H
            by_cases c5 : x17 < (l1.length : Int)
            · rw [if_pos c5] at H
              replace H := Option.bind_eq_some_iff.mp H
              obtain ⟨t, HT0, H⟩ := H
              have HT := Aside0.mk HT0
              clear HT0
              obtain ⟨ad, c, rfl, hcl, hK0, hcc⟩ := Kd.C_get HR.out z36 x17 c4 c3
              obtain ⟨bd, d, rfl, hdl, hJ0, hdd⟩ := Kd.C_get HS.out z36 x17 c4 c5
              have HC := Aside0.mk (show k36.K w (rd_T36 l0 x17) c from hK0)
              have JC := Aside0.mk (show k36.K w (rd_T36 l1 x17) d from hJ0)
              have KO := Aside0.mk (k36.K_one hK0)
              have JO := Aside0.mk (k36.K_one hJ0)
              have HL := Aside0.mk (show c.length = 19 from hcl)
              have JL := Aside0.mk (show d.length = 19 from hdl)
              have HE := Aside0.mk hcc
              have JE := Aside0.mk hdd
              clear hK0 hcl hcc hJ0 hdl hdd
              have p4 := eq_true c4
              have p3 := eq_true c3
              have p5 := eq_true c5
              have c3b : decide (x17 < (l0.length : Int)) = true := decide_eq_true c3
              have c4b : decide (0 ≤ x17) = true := decide_eq_true c4
              have c5b : decide (x17 < (l1.length : Int)) = true := decide_eq_true c5
              clear c3 c4 c5
              cases t with
              | false =>
                obtain rfl := Option.some.inj H
                clear H
                go_wp2_with (first | ((with_reducible refine gate_dst (N := 21) rfl ?_); (try simp only [Act.put, List.setIfInBounds_toArray, List.set_cons_zero, List.set_cons_succ]); refine load_elem (w := w) rfl 36 (.tmp 20) rfl ad 19 x17.toNat c rfl HB.out HE.out _ Try.underlying36 rfl thr36 HL.out ?_) | ((with_reducible refine gate_dst (N := 8) rfl ?_); refine box_event ?hg (N := 8) ?hd (cs := #[.int .i64 0, .int .i64 0, .int .i64 0, .int .i64 0, .int .i64 0, .int .i64 0, .int .i64 0, .int .i64 0, .int .i64 0, .int .i64 0, .int .i64 0, .int .i64 0, .int .i64 0, .int .i64 0, .slice none 0 0, .slice none 0 0, .slice none 0 0, .slice none 0 0, .slice none 0 0]) (t := 36) ?hr ?_; (case hd => rfl); (case hg => rfl); (case hr => first | (go_simp; done) | (go_simp; rfl)); intro gb8 hg wa hbox hb; have ZB := Aside0.mk hbox; have GW := Aside0.mk (show w.heap.size ≤ gb8 from by rw [hg]; exact HB.out.size); have n_ := Aside0.mk (below_step HB.out hb); clear HB; have HB := n_; clear n_ hbox hb hg) | ((with_reducible refine gate_store (t := 36) (p := 8) rfl ?_); (try simp only [Act.put, List.setIfInBounds_toArray, List.set_cons_zero, List.set_cons_succ]); refine store_kept rfl 36 (.tmp 8) _ rfl gb8 c [.int .i64 0, .int .i64 0, .int .i64 0, .int .i64 0, .int .i64 0, .int .i64 0, .int .i64 0, .int .i64 0, .int .i64 0, .int .i64 0, .int .i64 0, .int .i64 0, .int .i64 0, .int .i64 0, .slice none 0 0, .slice none 0 0, .slice none 0 0, .slice none 0 0, .slice none 0 0] (t0 := 36) rfl rfl ZB.out HL.out (thr36.trans (congrArg some HL.out.symm)) KO.out ?_; intro wb hbox hk hbk; have BK8 := Aside0.mk hbox; have n_ := Aside0.mk (hbk _ GW.out HB.out); clear HB ZB GW; have HB := n_; clear n_ hbox hk hbk) | ((with_reducible refine gate_dst (N := 25) rfl ?_); (try simp only [Act.put, List.setIfInBounds_toArray, List.set_cons_zero, List.set_cons_succ]); refine load_elem (w := w) rfl 36 (.tmp 24) rfl bd 19 x17.toNat d rfl HB.out JE.out _ Try.underlying36 rfl thr36 JL.out ?_) | ((with_reducible refine gate_dst (N := 9) rfl ?_); refine box_event ?hg (N := 9) ?hd (cs := #[.int .i64 0, .int .i64 0, .int .i64 0, .int .i64 0, .int .i64 0, .int .i64 0, .int .i64 0, .int .i64 0, .int .i64 0, .int .i64 0, .int .i64 0, .int .i64 0, .int .i64 0, .int .i64 0, .slice none 0 0, .slice none 0 0, .slice none 0 0, .slice none 0 0, .slice none 0 0]) (t := 36) ?hr ?_; (case hd => rfl); (case hg => rfl); (case hr => first | (go_simp; done) | (go_simp; rfl)); intro gb9 hg wa hbox hb; have ZB := Aside0.mk hbox; have GW := Aside0.mk (show w.heap.size ≤ gb9 from by rw [hg]; exact HB.out.size); have NE := Aside0.mk (show gb8 ≠ gb9 from Nat.ne_of_lt (by rw [hg]; exact blk_lt BK8.out)); have n8_ := Aside0.mk (blk_below BK8.out hb); clear BK8; have BK8 := n8_; clear n8_; have n_ := Aside0.mk (below_step HB.out hb); clear HB; have HB := n_; clear n_ hbox hb hg) | ((with_reducible refine gate_store (t := 36) (p := 9) rfl ?_); (try simp only [Act.put, List.setIfInBounds_toArray, List.set_cons_zero, List.set_cons_succ]); refine store_kept rfl 36 (.tmp 9) _ rfl gb9 d [.int .i64 0, .int .i64 0, .int .i64 0, .int .i64 0, .int .i64 0, .int .i64 0, .int .i64 0, .int .i64 0, .int .i64 0, .int .i64 0, .int .i64 0, .int .i64 0, .int .i64 0, .int .i64 0, .slice none 0 0, .slice none 0 0, .slice none 0 0, .slice none 0 0, .slice none 0 0] (t0 := 36) rfl rfl ZB.out JL.out (thr36.trans (congrArg some JL.out.symm)) JO.out ?_; intro wb hbox hk hbk; have BK9 := Aside0.mk hbox; have n8_ := Aside0.mk (blk_kept BK8.out hk NE.out); clear BK8 NE; have BK8 := n8_; clear n8_; have n_ := Aside0.mk (hbk _ GW.out HB.out); clear HB ZB GW; have HB := n_; clear n_ hbox hk hbk) | ((with_reducible refine gate_dst (N := 27) rfl ?_); (try simp only [Act.put, List.setIfInBounds_toArray, List.set_cons_zero, List.set_cons_succ]); refine load_whole gb8 (cs := c) (t0 := 36) BK8.out rfl 36 (.tmp 8) rfl rfl _ Try.underlying36 rfl (thr36.trans (congrArg some HL.out.symm)) ?_) | ((with_reducible refine gate_dst (N := 28) rfl ?_); (try simp only [Act.put, List.setIfInBounds_toArray, List.set_cons_zero, List.set_cons_succ]); refine load_whole gb9 (cs := d) (t0 := 36) BK9.out rfl 36 (.tmp 9) rfl rfl _ Try.underlying36 rfl (thr36.trans (congrArg some JL.out.symm)) ?_) | (go_at_call 9; (with_reducible refine (impl_EqualThreads.callT k1 (rd_T36 l0 x17) (rd_T36 l1 x17) c d _ _ (k36.K_below HB.out HC.out) (k36.K_below HB.out JC.out) HT.out).mono ?_); rintro e wc ⟨rfl, hb⟩; have n_ := Aside0.mk (below_step HB.out hb); clear HB hb; have HB := n_; clear n_))
                go_ret
                exact ⟨rfl, HB.out⟩
              | true =>
                rw [if_pos rfl] at H
                have H' := Aside0.mk H
                clear H
                go_wp2_with (first | ((with_reducible refine gate_dst (N := 21) rfl ?_); (try simp only [Act.put, List.setIfInBounds_toArray, List.set_cons_zero, List.set_cons_succ]); refine load_elem (w := w) rfl 36 (.tmp 20) rfl ad 19 x17.toNat c rfl HB.out HE.out _ Try.underlying36 rfl thr36 HL.out ?_) | ((with_reducible refine gate_dst (N := 8) rfl ?_); refine box_event ?hg (N := 8) ?hd (cs := #[.int .i64 0, .int .i64 0, .int .i64 0, .int .i64 0, .int .i64 0, .int .i64 0, .int .i64 0, .int .i64 0, .int .i64 0, .int .i64 0, .int .i64 0, .int .i64 0, .int .i64 0, .int .i64 0, .slice none 0 0, .slice none 0 0, .slice none 0 0, .slice none 0 0, .slice none 0 0]) (t := 36) ?hr ?_; (case hd => rfl); (case hg => rfl); (case hr => first | (go_simp; done) | (go_simp; rfl)); intro gb8 hg wa hbox hb; have ZB := Aside0.mk hbox; have GW := Aside0.mk (show w.heap.size ≤ gb8 from by rw [hg]; exact HB.out.size); have n_ := Aside0.mk (below_step HB.out hb); clear HB; have HB := n_; clear n_ hbox hb hg) | ((with_reducible refine gate_store (t := 36) (p := 8) rfl ?_); (try simp only [Act.put, List.setIfInBounds_toArray, List.set_cons_zero, List.set_cons_succ]); refine store_kept rfl 36 (.tmp 8) _ rfl gb8 c [.int .i64 0, .int .i64 0, .int .i64 0, .int .i64 0, .int .i64 0, .int .i64 0, .int .i64 0, .int .i64 0, .int .i64 0, .int .i64 0, .int .i64 0, .int .i64 0, .int .i64 0, .int .i64 0, .slice none 0 0, .slice none 0 0, .slice none 0 0, .slice none 0 0, .slice none 0 0] (t0 := 36) rfl rfl ZB.out HL.out (thr36.trans (congrArg some HL.out.symm)) KO.out ?_; intro wb hbox hk hbk; have BK8 := Aside0.mk hbox; have n_ := Aside0.mk (hbk _ GW.out HB.out); clear HB ZB GW; have HB := n_; clear n_ hbox hk hbk) | ((with_reducible refine gate_dst (N := 25) rfl ?_); (try simp only [Act.put, List.setIfInBounds_toArray, List.set_cons_zero, List.set_cons_succ]); refine load_elem (w := w) rfl 36 (.tmp 24) rfl bd 19 x17.toNat d rfl HB.out JE.out _ Try.underlying36 rfl thr36 JL.out ?_) | ((with_reducible refine gate_dst (N := 9) rfl ?_); refine box_event ?hg (N := 9) ?hd (cs := #[.int .i64 0, .int .i64 0, .int .i64 0, .int .i64 0, .int .i64 0, .int .i64 0, .int .i64 0, .int .i64 0, .int .i64 0, .int .i64 0, .int .i64 0, .int .i64 0, .int .i64 0, .int .i64 0, .slice none 0 0, .slice none 0 0, .slice none 0 0, .slice none 0 0, .slice none 0 0]) (t := 36) ?hr ?_; (case hd => rfl); (case hg => rfl); (case hr => first | (go_simp; done) | (go_simp; rfl)); intro gb9 hg wa hbox hb; have ZB := Aside0.mk hbox; have GW := Aside0.mk (show w.heap.size ≤ gb9 from by rw [hg]; exact HB.out.size); have NE := Aside0.mk (show gb8 ≠ gb9 from Nat.ne_of_lt (by rw [hg]; exact blk_lt BK8.out)); have n8_ := Aside0.mk (blk_below BK8.out hb); clear BK8; have BK8 := n8_; clear n8_; have n_ := Aside0.mk (below_step HB.out hb); clear HB; have HB := n_; clear n_ hbox hb hg) | ((with_reducible refine gate_store (t := 36) (p := 9) rfl ?_); (try simp only [Act.put, List.setIfInBounds_toArray, List.set_cons_zero, List.set_cons_succ]); refine store_kept rfl 36 (.tmp 9) _ rfl gb9 d [.int .i64 0, .int .i64 0, .int .i64 0, .int .i64 0, .int .i64 0, .int .i64 0, .int .i64 0, .int .i64 0, .int .i64 0, .int .i64 0, .int .i64 0, .int .i64 0, .int .i64 0, .int .i64 0, .slice none 0 0, .slice none 0 0, .slice none 0 0, .slice none 0 0, .slice none 0 0] (t0 := 36) rfl rfl ZB.out JL.out (thr36.trans (congrArg some JL.out.symm)) JO.out ?_; intro wb hbox hk hbk; have BK9 := Aside0.mk hbox; have n8_ := Aside0.mk (blk_kept BK8.out hk NE.out); clear BK8 NE; have BK8 := n8_; clear n8_; have n_ := Aside0.mk (hbk _ GW.out HB.out); clear HB ZB GW; have HB := n_; clear n_ hbox hk hbk) | ((with_reducible refine gate_dst (N := 27) rfl ?_); (try simp only [Act.put, List.setIfInBounds_toArray, List.set_cons_zero, List.set_cons_succ]); refine load_whole gb8 (cs := c) (t0 := 36) BK8.out rfl 36 (.tmp 8) rfl rfl _ Try.underlying36 rfl (thr36.trans (congrArg some HL.out.symm)) ?_) | ((with_reducible refine gate_dst (N := 28) rfl ?_); (try simp only [Act.put, List.setIfInBounds_toArray, List.set_cons_zero, List.set_cons_succ]); refine load_whole gb9 (cs := d) (t0 := 36) BK9.out rfl 36 (.tmp 9) rfl rfl _ Try.underlying36 rfl (thr36.trans (congrArg some JL.out.symm)) ?_) | (go_at_call 9; (with_reducible refine (impl_EqualThreads.callT k1 (rd_T36 l0 x17) (rd_T36 l1 x17) c d _ _ (k36.K_below HB.out HC.out) (k36.K_below HB.out JC.out) HT.out).mono ?_); rintro e wc ⟨rfl, hb⟩; have n_ := Aside0.mk (below_step HB.out hb); clear HB hb; have HB := n_; clear n_))
                go_roundg k1
                case measure => have := HK1.out; omega
                case rel => exact ⟨wrap64 (x17 + 1), by first | rfl | (simp; done) | (simp [*]; done), H', ⟨by have := HK1.out; omega⟩, HB⟩
            · rw [if_neg c5] at H
              cases H
          · rw [if_neg c4] at H
            cases H
        · rw [if_neg c3] at H
          obtain rfl := Option.some.inj H
          have c3b : decide (x17 < (l0.length : Int)) = false := decide_eq_false c3
          clear c3 H
          go_wp2
          go_ret
          exact ⟨rfl, HB.out⟩
  · rw [if_neg c3] at h
    obtain rfl := Option.some.inj h
    have c3b0 : ((l0.length : Int) == (l1.length : Int)) = false := beq_eq_false_iff_ne.mpr c3
    have c3b1 : ((l0.length : Int) != (l1.length : Int)) = true := bne_iff_ne.mpr c3
    have c3b2 : (l0.length == l1.length) = false := by first | simpa using c3 | (simp at c3 ⊢; omega)
    clear c3 h
    go_enter Try.func37, Try.ntmps37
    go_wp2
    go_ret
    exact ⟨rfl, HB.out⟩
end Go.Proofs.Ytamlpnfnidkknaa.GFnExactEqualStates
