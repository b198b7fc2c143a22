/- Of each Go function that the law FnLayout reaches: a Lean function, and the proof that the call comes to just its answer; written by a turned copy of the kit's printer, with contracts typed by hand for functions that it does not take. No condition. -/
import Derived.Test.YtbenihcaleiacabDoorGFnLayoutx0
import Derived.Test.YtbenihcaleiacabDoorGFnLayoutx2
namespace Go.Proofs.YtbenihcaleiacabDoor.GFnLayout
open Go.RowKit Go.Proofs.YtbenihcaleiacabDoorW.PrintWords Go.Proofs.YtbenihcaleiacabDoorW.PrintLast Go.Proofs.YtbenihcaleiacabDoorW.PrintMore
attribute [local go_sem] max2_int min2_int max_two min_two max_three min_three max_four min_four   -- for this text's walks alone
set_option linter.unusedVariables false
set_option linter.unusedSimpArgs false

/-! ### impl_ParseConfig: function 47 -/
theorem lit_event {P : Program} {ops : Array Oper} {rest : List Oper} {o : Oper} {a : Act} {Q : Exit → Act → World → Prop} {W : World} (hgd : o.guard = none) {N : Tmp} (_hd : o.dst = some N) {cs : Array Value} {t : TypeId} {n : Nat}
    (hrun : (execOp a.eval o).run P W = .ok (.value (.slice (some ⟨W.heap.size, 0, none⟩) n n)) (W.alloc (.cells cs t (0, 0))))
    (h : ∀ g, g = W.heap.size → ∀ w1, w1.heap[g]? = some (.cells cs t (0, 0)) → Below W.heap.size W w1 → wpList P ops Q rest (a.put o.dst (.slice (some ⟨g, 0, none⟩) n n)) w1) : wpList P ops Q (o :: rest) a W :=
  Kd.event_run hgd hrun (h _ rfl _ (blk_new W _) (below_alloc (Below.refl _ _) _))
def impl_ParseConfig.pol : Nat → Int → ByteArray → Option Int
  | 0, _, _ => none
  | k + 1, p, x => if p < 2 then (impl_PolicyName.f p).bind fun t => if t.toList = x.toList then some p else impl_ParseConfig.pol k (p + 1) x else some p
def impl_ParseConfig.f (a0 : ByteArray) : Option (Int × Int × Int × Int × Int × Int × Bool) := (strings_Split.f a0 (⟨#[32]⟩ : ByteArray)).bind fun t => if t.length = 11 then ((impl_ParseInt.f (rdOf ByteArray.empty t 2)).bind fun b0 => (impl_ParseInt.f (rdOf ByteArray.empty t 4)).bind fun b1 => (impl_ParseInt.f (rdOf ByteArray.empty t 6)).bind fun b2 => (impl_ParseInt.f (rdOf ByteArray.empty t 8)).bind fun b3 => (impl_ParseInt.f (rdOf ByteArray.empty t 10)).bind fun b5 => (impl_ParseConfig.pol 3 0 (rdOf ByteArray.empty t 0)).bind fun q => (impl_FormatConfig.f b0.1 b1.1 b2.1 b3.1 q b5.1).bind fun u => if u.toList = a0.toList then some (b0.1, b1.1, b2.1, b3.1, q, b5.1, true) else some (0, 0, 0, 0, 0, 0, false)) else some (0, 0, 0, 0, 0, 0, false)
def impl_ParseConfig.T10 : Bool × List (List Nat × List Nat) := (true, [([], []), ([0], [0]), ([1], [1]), ([2], [2]), ([3], [3]), ([4, 3], [3, 4]), ([5, 3, 3], [3, 5]), ([3], [3]), ([7, 3], [3, 7]), ([8, 3], [3, 8]), ([6, 9, 3], [3, 6, 9]), ([3, 10], [3, 10])])
def impl_ParseConfig.B10 : List Nat := [0, 1, 3, 7, 15, 31, 63, 15, 143, 399, 1023, 2047]
theorem impl_ParseConfig.tab10 : rtab .any (opsOf Tryd.f47 10) = impl_ParseConfig.T10 := by kernel_rfl
theorem impl_ParseConfig.bits10 : waitsOk impl_ParseConfig.T10.2 impl_ParseConfig.B10 = true := by kernel_rfl
set_option maxHeartbeats 8000000 in
set_option maxRecDepth 100000 in
theorem impl_ParseConfig.calls (a0 : ByteArray) (r1 : Int) (r2 : Int) (r3 : Int) (r4 : Int) (r5 : Int) (r6 : Int) (r7 : Bool) (w : World) (hF : Fit w) (h : impl_ParseConfig.f a0 = some (r1, r2, r3, r4, r5, r6, r7)) :
    Calls Tryd.prog 47 #[.string a0] w fun e w' => e = .returned (.tuple #[.agg #[.int .i64 r1, .int .i64 r2, .int .i64 r3, .int .i64 r4, .int .i64 r5, .int .i64 r6], .bool r7]) ∧ Below w.heap.size w w' := by
  have hu47 := Tryd.underlying47
  have HF := Aside0.mk hF
  clear hF
  have HB := Aside0.mk (Below.refl w.heap.size w)
  obtain ⟨t, ht, H⟩ := Option.bind_eq_some_iff.mp h
  have AT := Aside0.mk ht
  clear h ht
  by_cases c3 : t.length = 11
  · rw [if_pos c3] at H
    obtain ⟨⟨x0, y0⟩, h0_, H⟩ := Option.bind_eq_some_iff.mp H
    have A0 := Aside0.mk h0_
    clear h0_
    obtain ⟨⟨x1, y1⟩, h1_, H⟩ := Option.bind_eq_some_iff.mp H
    have A1 := Aside0.mk h1_
    clear h1_
    obtain ⟨⟨x2, y2⟩, h2_, H⟩ := Option.bind_eq_some_iff.mp H
    have A2 := Aside0.mk h2_
    clear h2_
    obtain ⟨⟨x3, y3⟩, h3_, H⟩ := Option.bind_eq_some_iff.mp H
    have A3 := Aside0.mk h3_
    clear h3_
    obtain ⟨⟨x5, y4⟩, h4_, H⟩ := Option.bind_eq_some_iff.mp H
    have A4 := Aside0.mk h4_
    clear h4_
    obtain ⟨q, hq_, H⟩ := Option.bind_eq_some_iff.mp H
    have AQ := Aside0.mk hq_
    clear hq_
    obtain ⟨u, hu_, H⟩ := Option.bind_eq_some_iff.mp H
    have AU : Aside0 (impl_FormatConfig.f x0 x1 x2 x3 q x5 = some u) := Aside0.mk hu_
    clear hu_
    replace H : (if u.toList = a0.toList then some (x0, x1, x2, x3, q, x5, true) else some (0, 0, 0, 0, 0, 0, false)) = some (r1, r2, r3, r4, r5, r6, r7) := H
    have HH := Aside0.mk H
    clear H
    have c3b0 : ((t.length : Int) == 11) = true := beq_iff_eq.mpr (by omega)
    have c3b1 : ((t.length : Int) != 11) = false := bne_eq_false_iff_eq.mpr (by omega)
    have LN := Aside0.mk c3
    clear c3
    go_enter Tryd.func47, Tryd.ntmps47
    go_wp2_with (first | ((with_reducible refine gate_dst (N := 2) rfl ?_); refine box_event ?hg (N := 2) ?hd (cs := #[.int .i64 0, .int .i64 0, .int .i64 0, .int .i64 0, .int .i64 0, .int .i64 0]) (t := 47) ?hr ?_; (case hd => rfl); (case hg => rfl); (case hr => first | (go_simp; done) | (go_simp; rfl)); intro ga hg w_ hbox hb; have g0_ := Aside0.mk ((by rw [hg]; exact (below_size (by repeat (first | (with_reducible first | exact HB.out | apply below_alloc | apply pw_below_drewN | apply below_drew1) | exact HB.out)))) : w.heap.size ≤ ga); have l0_ := Aside0.mk (below_step (by repeat (first | (with_reducible first | exact HB.out | apply below_alloc | apply pw_below_drewN | apply below_drew1) | exact HB.out)) hb); clear HB; have HB := l0_; clear  l0_; clear hb; have BA_ := Aside0.mk hbox; have GA_ := g0_; clear g0_; clear hbox hg) | (go_at_call 90; (with_reducible refine (strings_Split.calls (hF := Fit.below HF.out (by repeat (first | (with_reducible first | exact HB.out | apply below_alloc | apply pw_below_drewN | apply below_drew1 | refine below_set ?_ GA_.out) | exact HB.out))) a0 (⟨#[32]⟩ : ByteArray) t _ AT.out).mono ?_); rintro e w_ ⟨v_, rfl, ho, hb⟩; have n0_ := Aside0.mk (Kd.R_lower ho (below_size (by repeat (first | (with_reducible first | exact HB.out | apply below_alloc | apply pw_below_drewN | apply below_drew1 | refine below_set ?_ GA_.out) | exact HB.out)))); have m0_ := Aside0.mk (blk_below (g := ga) (o := .cells #[.int .i64 0, .int .i64 0, .int .i64 0, .int .i64 0, .int .i64 0, .int .i64 0] 47 (0, 0)) (by (with_reducible repeat (first | refine blk_drewN ?_ _ | refine blk_drew ?_ | refine blk_alloc ?_ _)); exact BA_.out) hb); have l0_ := Aside0.mk (below_step (by repeat (first | (with_reducible first | exact HB.out | apply below_alloc | apply pw_below_drewN | apply below_drew1 | refine below_set ?_ GA_.out) | exact HB.out)) hb); clear BA_; clear HB; have BA_ := m0_; have HB := l0_; clear  m0_ l0_; clear hb; have HO := n0_; clear n0_; clear ho; obtain ⟨Ao, co, eo⟩ := Kd.R_slice HO.out; subst eo) | ((with_reducible refine gate_dst (N := 5) rfl ?_); refine box_event ?hg (N := 5) ?hd (cs := #[.int .i64 0, .int .i64 0, .int .i64 0, .int .i64 0, .int .i64 0, .int .i64 0]) (t := 47) ?hr ?_; (case hd => rfl); (case hg => rfl); (case hr => first | (go_simp; done) | (go_simp; rfl)); intro gc hg w_ hbox hb; have g0_ := Aside0.mk ((by rw [hg]; exact (below_size (by repeat (first | (with_reducible first | exact HB.out | apply below_alloc | apply pw_below_drewN | apply below_drew1 | refine below_set ?_ GA_.out) | exact HB.out)))) : w.heap.size ≤ gc); have d0_ := Aside0.mk ((by rw [hg]; exact Nat.ne_of_lt (blk_lt (g := ga) (o := .cells #[.int .i64 0, .int .i64 0, .int .i64 0, .int .i64 0, .int .i64 0, .int .i64 0] 47 (0, 0)) (by (with_reducible repeat (first | refine blk_drewN ?_ _ | refine blk_drew ?_ | refine blk_alloc ?_ _)); exact BA_.out))) : ga ≠ gc); have n0_ := Aside0.mk (Kd.R_below (by (with_reducible repeat (first | apply Kd.R_alloc | apply Kd.R_drewN | apply Kd.R_drew)); exact HO.out) hb); have m0_ := Aside0.mk (blk_below (g := ga) (o := .cells #[.int .i64 0, .int .i64 0, .int .i64 0, .int .i64 0, .int .i64 0, .int .i64 0] 47 (0, 0)) (by (with_reducible repeat (first | refine blk_drewN ?_ _ | refine blk_drew ?_ | refine blk_alloc ?_ _)); exact BA_.out) hb); have l0_ := Aside0.mk (below_step (by repeat (first | (with_reducible first | exact HB.out | apply below_alloc | apply pw_below_drewN | apply below_drew1 | refine below_set ?_ GA_.out) | exact HB.out)) hb); clear HO; clear BA_; clear HB; have HO := n0_; have BA_ := m0_; have HB := l0_; clear  n0_ m0_ l0_; clear hb; have BC_ := Aside0.mk hbox; have GC_ := g0_; have NDga_gc := d0_; have NEga_gc := Aside0.mk (Ne.symm d0_.out); clear g0_ d0_; clear hbox hg; have hczc_0 := (blk_cell (g := gc) BC_.out 0).trans (show _ = some (.int .i64 0) from rfl); have hczc_1 := (blk_cell (g := gc) BC_.out 1).trans (show _ = some (.int .i64 0) from rfl); have hczc_2 := (blk_cell (g := gc) BC_.out 2).trans (show _ = some (.int .i64 0) from rfl); have hczc_3 := (blk_cell (g := gc) BC_.out 3).trans (show _ = some (.int .i64 0) from rfl); have hczc_4 := (blk_cell (g := gc) BC_.out 4).trans (show _ = some (.int .i64 0) from rfl); have hczc_5 := (blk_cell (g := gc) BC_.out 5).trans (show _ = some (.int .i64 0) from rfl); have hfzc_0 := blk_frozen (g := gc) BC_.out 0; have hfzc_1 := blk_frozen (g := gc) BC_.out 1; have hfzc_2 := blk_frozen (g := gc) BC_.out 2; have hfzc_3 := blk_frozen (g := gc) BC_.out 3; have hfzc_4 := blk_frozen (g := gc) BC_.out 4; have hfzc_5 := blk_frozen (g := gc) BC_.out 5) | ((with_reducible refine gate_dst (N := 20) rfl ?_); refine lit_event ?hg (N := 20) ?hd (cs := #[.pointer (some ⟨gc, 0, none⟩), .pointer (some ⟨gc, 1, none⟩), .pointer (some ⟨gc, 2, none⟩), .pointer (some ⟨gc, 3, none⟩), .pointer (some ⟨gc, 5, none⟩)]) (t := 91) (n := 5) ?hr ?_; (case hd => rfl); (case hg => rfl); (case hr => first | (go_simp; done) | (go_simp; rfl)); intro gp hg w_ hbox hb; have mm_ := Aside0.mk (blk_below (g := gc) (o := .cells #[.int .i64 0, .int .i64 0, .int .i64 0, .int .i64 0, .int .i64 0, .int .i64 0] 47 (0, 0)) (by (with_reducible repeat (first | refine blk_drewN ?_ _ | refine blk_drew ?_ | refine blk_alloc ?_ _)); refine blk_put (cs := #[.int .i64 0, .int .i64 0, .int .i64 0, .int .i64 0, .int .i64 0, .int .i64 0]) ?_ 5 _ rfl; refine blk_put (cs := #[.int .i64 0, .int .i64 0, .int .i64 0, .int .i64 0, .int .i64 0, .int .i64 0]) ?_ 4 _ rfl; refine blk_put (cs := #[.int .i64 0, .int .i64 0, .int .i64 0, .int .i64 0, .int .i64 0, .int .i64 0]) ?_ 3 _ rfl; refine blk_put (cs := #[.int .i64 0, .int .i64 0, .int .i64 0, .int .i64 0, .int .i64 0, .int .i64 0]) ?_ 2 _ rfl; refine blk_put (cs := #[.int .i64 0, .int .i64 0, .int .i64 0, .int .i64 0, .int .i64 0, .int .i64 0]) ?_ 1 _ rfl; refine blk_put (cs := #[.int .i64 0, .int .i64 0, .int .i64 0, .int .i64 0, .int .i64 0, .int .i64 0]) ?_ 0 _ rfl;  exact BC_.out) hb); have n0_ := Aside0.mk (Kd.R_below (by (with_reducible repeat (first | apply Kd.R_alloc | apply Kd.R_drewN | apply Kd.R_drew)); exact Kd.R_mono ((Kd.R_far (p := ⟨gc, 5, none⟩) (Kd.R_far (p := ⟨gc, 4, none⟩) (Kd.R_far (p := ⟨gc, 3, none⟩) (Kd.R_far (p := ⟨gc, 2, none⟩) (Kd.R_far (p := ⟨gc, 1, none⟩) (Kd.R_far (p := ⟨gc, 0, none⟩) (Kd.R_types HO.out BC_.out (by decide)) (fun _ hk => hk.2) (.int .i64 0)) (fun _ hk => hk.2) (.int .i64 0)) (fun _ hk => hk.2) (.int .i64 0)) (fun _ hk => hk.2) (.int .i64 0)) (fun _ hk => hk.2) (.int .i64 0)) (fun _ hk => hk.2) (.int .i64 0))) (fun _ hk => hk.1)) hb); have m0_ := Aside0.mk (blk_below (g := ga) (o := .cells #[.int .i64 0, .int .i64 0, .int .i64 0, .int .i64 0, .int .i64 0, .int .i64 0] 47 (0, 0)) (by (with_reducible repeat (first | refine blk_drewN ?_ _ | refine blk_drew ?_ | refine blk_alloc ?_ _)); refine blk_far ?_ NDga_gc.out _; refine blk_far ?_ NDga_gc.out _; refine blk_far ?_ NDga_gc.out _; refine blk_far ?_ NDga_gc.out _; refine blk_far ?_ NDga_gc.out _; refine blk_far ?_ NDga_gc.out _;  exact BA_.out) hb); have l0_ := Aside0.mk (below_step (by repeat (first | (with_reducible first | exact HB.out | apply below_alloc | apply pw_below_drewN | apply below_drew1 | refine below_set ?_ GA_.out | refine below_set ?_ GC_.out) | exact HB.out)) hb); have d0_ := Aside0.mk ((by rw [hg]; exact Nat.ne_of_lt (blk_lt (g := gc) (o := .cells #[.int .i64 0, .int .i64 0, .int .i64 0, .int .i64 0, .int .i64 0, .int .i64 0] 47 (0, 0)) (by (with_reducible repeat (first | refine blk_drewN ?_ _ | refine blk_drew ?_ | refine blk_alloc ?_ _)); refine blk_put (cs := #[.int .i64 0, .int .i64 0, .int .i64 0, .int .i64 0, .int .i64 0, .int .i64 0]) ?_ 5 _ rfl; refine blk_put (cs := #[.int .i64 0, .int .i64 0, .int .i64 0, .int .i64 0, .int .i64 0, .int .i64 0]) ?_ 4 _ rfl; refine blk_put (cs := #[.int .i64 0, .int .i64 0, .int .i64 0, .int .i64 0, .int .i64 0, .int .i64 0]) ?_ 3 _ rfl; refine blk_put (cs := #[.int .i64 0, .int .i64 0, .int .i64 0, .int .i64 0, .int .i64 0, .int .i64 0]) ?_ 2 _ rfl; refine blk_put (cs := #[.int .i64 0, .int .i64 0, .int .i64 0, .int .i64 0, .int .i64 0, .int .i64 0]) ?_ 1 _ rfl; refine blk_put (cs := #[.int .i64 0, .int .i64 0, .int .i64 0, .int .i64 0, .int .i64 0, .int .i64 0]) ?_ 0 _ rfl;  exact BC_.out))) : gc ≠ gp); clear HO; clear BA_; clear BC_; clear HB; have HO := n0_; have BA_ := m0_; have BC_ := mm_; have HB := l0_; have BP_ := Aside0.mk hbox; have NDgc_gp := d0_; have NEgc_gp := Aside0.mk (Ne.symm d0_.out); clear n0_ m0_ mm_ l0_ d0_; clear hb hbox hg))
    go_loopg [22] 5 (fun gg v22 w' => ∃ (n_ : Nat) (cs_ : Array Value), Aside0 ((n_ = 0 ∧ v22 = .int .i64 0 ∧ cs_ = #[.int .i64 0, .int .i64 0, .int .i64 0, .int .i64 0, .int .i64 0, .int .i64 0]) ∨ (n_ = 1 ∧ v22 = .int .i64 1 ∧ cs_ = #[.int .i64 x0, .int .i64 0, .int .i64 0, .int .i64 0, .int .i64 0, .int .i64 0]) ∨ (n_ = 2 ∧ v22 = .int .i64 2 ∧ cs_ = #[.int .i64 x0, .int .i64 x1, .int .i64 0, .int .i64 0, .int .i64 0, .int .i64 0]) ∨ (n_ = 3 ∧ v22 = .int .i64 3 ∧ cs_ = #[.int .i64 x0, .int .i64 x1, .int .i64 x2, .int .i64 0, .int .i64 0, .int .i64 0]) ∨ (n_ = 4 ∧ v22 = .int .i64 4 ∧ cs_ = #[.int .i64 x0, .int .i64 x1, .int .i64 x2, .int .i64 x3, .int .i64 0, .int .i64 0]) ∨ (n_ = 5 ∧ v22 = .int .i64 5 ∧ cs_ = #[.int .i64 x0, .int .i64 x1, .int .i64 x2, .int .i64 x3, .int .i64 0, .int .i64 x5])) ∧ 5 - n_ ≤ gg ∧ Aside0 (Kd.R Kd.string 9 w' w.heap.size (fun _ => True) (.slice Ao t.length co) t) ∧ Aside0 (w'.heap[ga]? = some (.cells #[.int .i64 0, .int .i64 0, .int .i64 0, .int .i64 0, .int .i64 0, .int .i64 0] 47 (0, 0))) ∧ Aside0 (w'.heap[gc]? = some (.cells cs_ 47 (0, 0))) ∧ Aside0 (w'.heap[gp]? = some (.cells #[.pointer (some ⟨gc, 0, none⟩), .pointer (some ⟨gc, 1, none⟩), .pointer (some ⟨gc, 2, none⟩), .pointer (some ⟨gc, 3, none⟩), .pointer (some ⟨gc, 5, none⟩)] 91 (0, 0))) ∧ Aside0 (Below w.heap.size w w'))
    case atStart => exact ⟨0, _, ⟨Or.inl ⟨rfl, rfl, rfl⟩⟩, Nat.le_refl _, ⟨by (with_reducible repeat (first | apply Kd.R_alloc | apply Kd.R_drewN | apply Kd.R_drew)); exact Kd.R_mono HO.out (fun _ _ => trivial)⟩, ⟨by (with_reducible repeat (first | refine blk_drewN ?_ _ | refine blk_drew ?_ | refine blk_alloc ?_ _)); exact BA_.out⟩, ⟨by (with_reducible repeat (first | refine blk_drewN ?_ _ | refine blk_drew ?_ | refine blk_alloc ?_ _)); exact BC_.out⟩, ⟨by (with_reducible repeat (first | refine blk_drewN ?_ _ | refine blk_drew ?_ | refine blk_alloc ?_ _)); exact BP_.out⟩, ⟨by repeat (first | (with_reducible first | exact HB.out | apply below_alloc | apply pw_below_drewN | apply below_drew1 | refine below_set ?_ GA_.out | refine below_set ?_ GC_.out) | exact HB.out)⟩⟩
    case round =>
      clear HO BA_ BC_ BP_ HB
      try clear hczc_0
      try clear hfzc_0
      try clear hczc_1
      try clear hfzc_1
      try clear hczc_2
      try clear hfzc_2
      try clear hczc_3
      try clear hfzc_3
      try clear hczc_4
      try clear hfzc_4
      try clear hczc_5
      try clear hfzc_5
      obtain ⟨n_, cs_, ⟨hd_⟩, hgg, HO, BA_, BC_, BP_, HB⟩ := hrel
      rcases hd_ with ⟨rfl, rfl, rfl⟩ | ⟨rfl, rfl, rfl⟩ | ⟨rfl, rfl, rfl⟩ | ⟨rfl, rfl, rfl⟩ | ⟨rfl, rfl, rfl⟩ | ⟨rfl, rfl, rfl⟩
      · have hxp := (blk_cell (g := gp) BP_.out 0).trans (show _ = some (.pointer (some ⟨gc, 0, none⟩)) from rfl)
        have p2 : 0 ≤ (2 : Int) := by omega
        have q2 : (2 : Int) < (t.length : Int) := by have := LN.out; omega
        obtain ⟨ad2, e2, hx2⟩ := Kd.at_string (Kd.R_reads' HO.out).2.2 2 p2 q2
        cases e2
        (try simp only [show (2 : Int).toNat = 2 from rfl, Nat.reduceMul, Nat.reduceEqDiff, Go.Addr.add, ↓reduceIte] at hx2)
        (try rw [Addr.add_zero'] at hx2)
        have qi2 : (2 < t.length) = True := eq_true (by have := LN.out; omega)
        replace p2 := eq_true p2
        replace q2 := eq_true q2
        go_wp2_with (first | (go_at_call 12; (with_reducible refine (impl_ParseInt.calls (hF := Fit.below HF.out (by repeat (first | (with_reducible first | exact HB.out | apply below_alloc | apply pw_below_drewN | apply below_drew1 | refine below_set ?_ GA_.out | refine below_set ?_ GC_.out) | exact HB.out))) (rdOf ByteArray.empty t 2) x0 y0 _ A0.out).mono ?_); rintro e w_ ⟨rfl, hb⟩; have n0_ := Aside0.mk (Kd.R_below (by (with_reducible repeat (first | apply Kd.R_alloc | apply Kd.R_drewN | apply Kd.R_drew)); exact HO.out) hb); have m0_ := Aside0.mk (blk_below (g := ga) (o := .cells #[.int .i64 0, .int .i64 0, .int .i64 0, .int .i64 0, .int .i64 0, .int .i64 0] 47 (0, 0)) (by (with_reducible repeat (first | refine blk_drewN ?_ _ | refine blk_drew ?_ | refine blk_alloc ?_ _)); exact BA_.out) hb); have m1_ := Aside0.mk (blk_below (g := gc) (o := .cells #[.int .i64 0, .int .i64 0, .int .i64 0, .int .i64 0, .int .i64 0, .int .i64 0] 47 (0, 0)) (by (with_reducible repeat (first | refine blk_drewN ?_ _ | refine blk_drew ?_ | refine blk_alloc ?_ _)); exact BC_.out) hb); have m2_ := Aside0.mk (blk_below (g := gp) (o := .cells #[.pointer (some ⟨gc, 0, none⟩), .pointer (some ⟨gc, 1, none⟩), .pointer (some ⟨gc, 2, none⟩), .pointer (some ⟨gc, 3, none⟩), .pointer (some ⟨gc, 5, none⟩)] 91 (0, 0)) (by (with_reducible repeat (first | refine blk_drewN ?_ _ | refine blk_drew ?_ | refine blk_alloc ?_ _)); exact BP_.out) hb); have l0_ := Aside0.mk (below_step (by repeat (first | (with_reducible first | exact HB.out | apply below_alloc | apply pw_below_drewN | apply below_drew1 | refine below_set ?_ GA_.out | refine below_set ?_ GC_.out) | exact HB.out)) hb); clear HO; clear BA_; clear BC_; clear BP_; clear HB; have HO := n0_; have BA_ := m0_; have BC_ := m1_; have BP_ := m2_; have HB := l0_; clear  n0_ m0_ m1_ m2_ l0_; clear hb; have hczd_0 := (blk_cell (g := gc) BC_.out 0).trans (show _ = some (.int .i64 0) from rfl); have hczd_1 := (blk_cell (g := gc) BC_.out 1).trans (show _ = some (.int .i64 0) from rfl); have hczd_2 := (blk_cell (g := gc) BC_.out 2).trans (show _ = some (.int .i64 0) from rfl); have hczd_3 := (blk_cell (g := gc) BC_.out 3).trans (show _ = some (.int .i64 0) from rfl); have hczd_4 := (blk_cell (g := gc) BC_.out 4).trans (show _ = some (.int .i64 0) from rfl); have hczd_5 := (blk_cell (g := gc) BC_.out 5).trans (show _ = some (.int .i64 0) from rfl); have hfzd_0 := blk_frozen (g := gc) BC_.out 0; have hfzd_1 := blk_frozen (g := gc) BC_.out 1; have hfzd_2 := blk_frozen (g := gc) BC_.out 2; have hfzd_3 := blk_frozen (g := gc) BC_.out 3; have hfzd_4 := blk_frozen (g := gc) BC_.out 4; have hfzd_5 := blk_frozen (g := gc) BC_.out 5))
        go_roundg (5 - 1)
        case measure => omega
        case rel => exact ⟨1, _, ⟨Or.inr (Or.inl ⟨rfl, rfl, rfl⟩)⟩, by omega, ⟨by (with_reducible repeat (first | apply Kd.R_alloc | apply Kd.R_drewN | apply Kd.R_drew)); exact Kd.R_mono (Kd.R_far (p := ⟨gc, 0, none⟩) (Kd.R_types HO.out BC_.out (by decide)) (fun _ hk => hk.2) (.int .i64 x0)) (fun _ hk => trivial)⟩, ⟨by (with_reducible repeat (first | refine blk_drewN ?_ _ | refine blk_drew ?_ | refine blk_alloc ?_ _)); refine blk_far ?_ NDga_gc.out _; exact BA_.out⟩, ⟨by (with_reducible repeat (first | refine blk_drewN ?_ _ | refine blk_drew ?_ | refine blk_alloc ?_ _)); refine blk_put (cs := #[.int .i64 0, .int .i64 0, .int .i64 0, .int .i64 0, .int .i64 0, .int .i64 0]) ?_ 0 _ rfl; exact BC_.out⟩, ⟨by (with_reducible repeat (first | refine blk_drewN ?_ _ | refine blk_drew ?_ | refine blk_alloc ?_ _)); refine blk_far ?_ NEgc_gp.out _; exact BP_.out⟩, ⟨by repeat (first | (with_reducible first | exact HB.out | apply below_alloc | apply pw_below_drewN | apply below_drew1 | refine below_set ?_ GA_.out | refine below_set ?_ GC_.out) | exact HB.out)⟩⟩
      · have hxp := (blk_cell (g := gp) BP_.out 1).trans (show _ = some (.pointer (some ⟨gc, 1, none⟩)) from rfl)
        have p4 : 0 ≤ (4 : Int) := by omega
        have q4 : (4 : Int) < (t.length : Int) := by have := LN.out; omega
        obtain ⟨ad4, e4, hx4⟩ := Kd.at_string (Kd.R_reads' HO.out).2.2 4 p4 q4
        cases e4
        (try simp only [show (4 : Int).toNat = 4 from rfl, Nat.reduceMul, Nat.reduceEqDiff, Go.Addr.add, ↓reduceIte] at hx4)
        (try rw [Addr.add_zero'] at hx4)
        have qi4 : (4 < t.length) = True := eq_true (by have := LN.out; omega)
        replace p4 := eq_true p4
        replace q4 := eq_true q4
        go_wp2_with (first | (go_at_call 12; (with_reducible refine (impl_ParseInt.calls (hF := Fit.below HF.out (by repeat (first | (with_reducible first | exact HB.out | apply below_alloc | apply pw_below_drewN | apply below_drew1 | refine below_set ?_ GA_.out | refine below_set ?_ GC_.out) | exact HB.out))) (rdOf ByteArray.empty t 4) x1 y1 _ A1.out).mono ?_); rintro e w_ ⟨rfl, hb⟩; have n0_ := Aside0.mk (Kd.R_below (by (with_reducible repeat (first | apply Kd.R_alloc | apply Kd.R_drewN | apply Kd.R_drew)); exact HO.out) hb); have m0_ := Aside0.mk (blk_below (g := ga) (o := .cells #[.int .i64 0, .int .i64 0, .int .i64 0, .int .i64 0, .int .i64 0, .int .i64 0] 47 (0, 0)) (by (with_reducible repeat (first | refine blk_drewN ?_ _ | refine blk_drew ?_ | refine blk_alloc ?_ _)); exact BA_.out) hb); have m1_ := Aside0.mk (blk_below (g := gc) (o := .cells #[.int .i64 x0, .int .i64 0, .int .i64 0, .int .i64 0, .int .i64 0, .int .i64 0] 47 (0, 0)) (by (with_reducible repeat (first | refine blk_drewN ?_ _ | refine blk_drew ?_ | refine blk_alloc ?_ _)); exact BC_.out) hb); have m2_ := Aside0.mk (blk_below (g := gp) (o := .cells #[.pointer (some ⟨gc, 0, none⟩), .pointer (some ⟨gc, 1, none⟩), .pointer (some ⟨gc, 2, none⟩), .pointer (some ⟨gc, 3, none⟩), .pointer (some ⟨gc, 5, none⟩)] 91 (0, 0)) (by (with_reducible repeat (first | refine blk_drewN ?_ _ | refine blk_drew ?_ | refine blk_alloc ?_ _)); exact BP_.out) hb); have l0_ := Aside0.mk (below_step (by repeat (first | (with_reducible first | exact HB.out | apply below_alloc | apply pw_below_drewN | apply below_drew1 | refine below_set ?_ GA_.out | refine below_set ?_ GC_.out) | exact HB.out)) hb); clear HO; clear BA_; clear BC_; clear BP_; clear HB; have HO := n0_; have BA_ := m0_; have BC_ := m1_; have BP_ := m2_; have HB := l0_; clear  n0_ m0_ m1_ m2_ l0_; clear hb; have hczd_0 := (blk_cell (g := gc) BC_.out 0).trans (show _ = some (.int .i64 x0) from rfl); have hczd_1 := (blk_cell (g := gc) BC_.out 1).trans (show _ = some (.int .i64 0) from rfl); have hczd_2 := (blk_cell (g := gc) BC_.out 2).trans (show _ = some (.int .i64 0) from rfl); have hczd_3 := (blk_cell (g := gc) BC_.out 3).trans (show _ = some (.int .i64 0) from rfl); have hczd_4 := (blk_cell (g := gc) BC_.out 4).trans (show _ = some (.int .i64 0) from rfl); have hczd_5 := (blk_cell (g := gc) BC_.out 5).trans (show _ = some (.int .i64 0) from rfl); have hfzd_0 := blk_frozen (g := gc) BC_.out 0; have hfzd_1 := blk_frozen (g := gc) BC_.out 1; have hfzd_2 := blk_frozen (g := gc) BC_.out 2; have hfzd_3 := blk_frozen (g := gc) BC_.out 3; have hfzd_4 := blk_frozen (g := gc) BC_.out 4; have hfzd_5 := blk_frozen (g := gc) BC_.out 5))
        go_roundg (5 - 2)
        case measure => omega
        case rel => exact ⟨2, _, ⟨Or.inr (Or.inr (Or.inl ⟨rfl, rfl, rfl⟩))⟩, by omega, ⟨by (with_reducible repeat (first | apply Kd.R_alloc | apply Kd.R_drewN | apply Kd.R_drew)); exact Kd.R_mono (Kd.R_far (p := ⟨gc, 1, none⟩) (Kd.R_types HO.out BC_.out (by decide)) (fun _ hk => hk.2) (.int .i64 x1)) (fun _ hk => trivial)⟩, ⟨by (with_reducible repeat (first | refine blk_drewN ?_ _ | refine blk_drew ?_ | refine blk_alloc ?_ _)); refine blk_far ?_ NDga_gc.out _; exact BA_.out⟩, ⟨by (with_reducible repeat (first | refine blk_drewN ?_ _ | refine blk_drew ?_ | refine blk_alloc ?_ _)); refine blk_put (cs := #[.int .i64 x0, .int .i64 0, .int .i64 0, .int .i64 0, .int .i64 0, .int .i64 0]) ?_ 1 _ rfl; exact BC_.out⟩, ⟨by (with_reducible repeat (first | refine blk_drewN ?_ _ | refine blk_drew ?_ | refine blk_alloc ?_ _)); refine blk_far ?_ NEgc_gp.out _; exact BP_.out⟩, ⟨by repeat (first | (with_reducible first | exact HB.out | apply below_alloc | apply pw_below_drewN | apply below_drew1 | refine below_set ?_ GA_.out | refine below_set ?_ GC_.out) | exact HB.out)⟩⟩
      · have hxp := (blk_cell (g := gp) BP_.out 2).trans (show _ = some (.pointer (some ⟨gc, 2, none⟩)) from rfl)
        have p6 : 0 ≤ (6 : Int) := by omega
        have q6 : (6 : Int) < (t.length : Int) := by have := LN.out; omega
        obtain ⟨ad6, e6, hx6⟩ := Kd.at_string (Kd.R_reads' HO.out).2.2 6 p6 q6
        cases e6
        (try simp only [show (6 : Int).toNat = 6 from rfl, Nat.reduceMul, Nat.reduceEqDiff, Go.Addr.add, ↓reduceIte] at hx6)
        (try rw [Addr.add_zero'] at hx6)
        have qi6 : (6 < t.length) = True := eq_true (by have := LN.out; omega)
        replace p6 := eq_true p6
        replace q6 := eq_true q6
        go_wp2_with (first | (go_at_call 12; (with_reducible refine (impl_ParseInt.calls (hF := Fit.below HF.out (by repeat (first | (with_reducible first | exact HB.out | apply below_alloc | apply pw_below_drewN | apply below_drew1 | refine below_set ?_ GA_.out | refine below_set ?_ GC_.out) | exact HB.out))) (rdOf ByteArray.empty t 6) x2 y2 _ A2.out).mono ?_); rintro e w_ ⟨rfl, hb⟩; have n0_ := Aside0.mk (Kd.R_below (by (with_reducible repeat (first | apply Kd.R_alloc | apply Kd.R_drewN | apply Kd.R_drew)); exact HO.out) hb); have m0_ := Aside0.mk (blk_below (g := ga) (o := .cells #[.int .i64 0, .int .i64 0, .int .i64 0, .int .i64 0, .int .i64 0, .int .i64 0] 47 (0, 0)) (by (with_reducible repeat (first | refine blk_drewN ?_ _ | refine blk_drew ?_ | refine blk_alloc ?_ _)); exact BA_.out) hb); have m1_ := Aside0.mk (blk_below (g := gc) (o := .cells #[.int .i64 x0, .int .i64 x1, .int .i64 0, .int .i64 0, .int .i64 0, .int .i64 0] 47 (0, 0)) (by (with_reducible repeat (first | refine blk_drewN ?_ _ | refine blk_drew ?_ | refine blk_alloc ?_ _)); exact BC_.out) hb); have m2_ := Aside0.mk (blk_below (g := gp) (o := .cells #[.pointer (some ⟨gc, 0, none⟩), .pointer (some ⟨gc, 1, none⟩), .pointer (some ⟨gc, 2, none⟩), .pointer (some ⟨gc, 3, none⟩), .pointer (some ⟨gc, 5, none⟩)] 91 (0, 0)) (by (with_reducible repeat (first | refine blk_drewN ?_ _ | refine blk_drew ?_ | refine blk_alloc ?_ _)); exact BP_.out) hb); have l0_ := Aside0.mk (below_step (by repeat (first | (with_reducible first | exact HB.out | apply below_alloc | apply pw_below_drewN | apply below_drew1 | refine below_set ?_ GA_.out | refine below_set ?_ GC_.out) | exact HB.out)) hb); clear HO; clear BA_; clear BC_; clear BP_; clear HB; have HO := n0_; have BA_ := m0_; have BC_ := m1_; have BP_ := m2_; have HB := l0_; clear  n0_ m0_ m1_ m2_ l0_; clear hb; have hczd_0 := (blk_cell (g := gc) BC_.out 0).trans (show _ = some (.int .i64 x0) from rfl); have hczd_1 := (blk_cell (g := gc) BC_.out 1).trans (show _ = some (.int .i64 x1) from rfl); have hczd_2 := (blk_cell (g := gc) BC_.out 2).trans (show _ = some (.int .i64 0) from rfl); have hczd_3 := (blk_cell (g := gc) BC_.out 3).trans (show _ = some (.int .i64 0) from rfl); have hczd_4 := (blk_cell (g := gc) BC_.out 4).trans (show _ = some (.int .i64 0) from rfl); have hczd_5 := (blk_cell (g := gc) BC_.out 5).trans (show _ = some (.int .i64 0) from rfl); have hfzd_0 := blk_frozen (g := gc) BC_.out 0; have hfzd_1 := blk_frozen (g := gc) BC_.out 1; have hfzd_2 := blk_frozen (g := gc) BC_.out 2; have hfzd_3 := blk_frozen (g := gc) BC_.out 3; have hfzd_4 := blk_frozen (g := gc) BC_.out 4; have hfzd_5 := blk_frozen (g := gc) BC_.out 5))
        go_roundg (5 - 3)
        case measure => omega
        case rel => exact ⟨3, _, ⟨Or.inr (Or.inr (Or.inr (Or.inl ⟨rfl, rfl, rfl⟩)))⟩, by omega, ⟨by (with_reducible repeat (first | apply Kd.R_alloc | apply Kd.R_drewN | apply Kd.R_drew)); exact Kd.R_mono (Kd.R_far (p := ⟨gc, 2, none⟩) (Kd.R_types HO.out BC_.out (by decide)) (fun _ hk => hk.2) (.int .i64 x2)) (fun _ hk => trivial)⟩, ⟨by (with_reducible repeat (first | refine blk_drewN ?_ _ | refine blk_drew ?_ | refine blk_alloc ?_ _)); refine blk_far ?_ NDga_gc.out _; exact BA_.out⟩, ⟨by (with_reducible repeat (first | refine blk_drewN ?_ _ | refine blk_drew ?_ | refine blk_alloc ?_ _)); refine blk_put (cs := #[.int .i64 x0, .int .i64 x1, .int .i64 0, .int .i64 0, .int .i64 0, .int .i64 0]) ?_ 2 _ rfl; exact BC_.out⟩, ⟨by (with_reducible repeat (first | refine blk_drewN ?_ _ | refine blk_drew ?_ | refine blk_alloc ?_ _)); refine blk_far ?_ NEgc_gp.out _; exact BP_.out⟩, ⟨by repeat (first | (with_reducible first | exact HB.out | apply below_alloc | apply pw_below_drewN | apply below_drew1 | refine below_set ?_ GA_.out | refine below_set ?_ GC_.out) | exact HB.out)⟩⟩
      · have hxp := (blk_cell (g := gp) BP_.out 3).trans (show _ = some (.pointer (some ⟨gc, 3, none⟩)) from rfl)
        have p8 : 0 ≤ (8 : Int) := by omega
        have q8 : (8 : Int) < (t.length : Int) := by have := LN.out; omega
        obtain ⟨ad8, e8, hx8⟩ := Kd.at_string (Kd.R_reads' HO.out).2.2 8 p8 q8
        cases e8
        (try simp only [show (8 : Int).toNat = 8 from rfl, Nat.reduceMul, Nat.reduceEqDiff, Go.Addr.add, ↓reduceIte] at hx8)
        (try rw [Addr.add_zero'] at hx8)
        have qi8 : (8 < t.length) = True := eq_true (by have := LN.out; omega)
        replace p8 := eq_true p8
        replace q8 := eq_true q8
        go_wp2_with (first | (go_at_call 12; (with_reducible refine (impl_ParseInt.calls (hF := Fit.below HF.out (by repeat (first | (with_reducible first | exact HB.out | apply below_alloc | apply pw_below_drewN | apply below_drew1 | refine below_set ?_ GA_.out | refine below_set ?_ GC_.out) | exact HB.out))) (rdOf ByteArray.empty t 8) x3 y3 _ A3.out).mono ?_); rintro e w_ ⟨rfl, hb⟩; have n0_ := Aside0.mk (Kd.R_below (by (with_reducible repeat (first | apply Kd.R_alloc | apply Kd.R_drewN | apply Kd.R_drew)); exact HO.out) hb); have m0_ := Aside0.mk (blk_below (g := ga) (o := .cells #[.int .i64 0, .int .i64 0, .int .i64 0, .int .i64 0, .int .i64 0, .int .i64 0] 47 (0, 0)) (by (with_reducible repeat (first | refine blk_drewN ?_ _ | refine blk_drew ?_ | refine blk_alloc ?_ _)); exact BA_.out) hb); have m1_ := Aside0.mk (blk_below (g := gc) (o := .cells #[.int .i64 x0, .int .i64 x1, .int .i64 x2, .int .i64 0, .int .i64 0, .int .i64 0] 47 (0, 0)) (by (with_reducible repeat (first | refine blk_drewN ?_ _ | refine blk_drew ?_ | refine blk_alloc ?_ _)); exact BC_.out) hb); have m2_ := Aside0.mk (blk_below (g := gp) (o := .cells #[.pointer (some ⟨gc, 0, none⟩), .pointer (some ⟨gc, 1, none⟩), .pointer (some ⟨gc, 2, none⟩), .pointer (some ⟨gc, 3, none⟩), .pointer (some ⟨gc, 5, none⟩)] 91 (0, 0)) (by (with_reducible repeat (first | refine blk_drewN ?_ _ | refine blk_drew ?_ | refine blk_alloc ?_ _)); exact BP_.out) hb); have l0_ := Aside0.mk (below_step (by repeat (first | (with_reducible first | exact HB.out | apply below_alloc | apply pw_below_drewN | apply below_drew1 | refine below_set ?_ GA_.out | refine below_set ?_ GC_.out) | exact HB.out)) hb); clear HO; clear BA_; clear BC_; clear BP_; clear HB; have HO := n0_; have BA_ := m0_; have BC_ := m1_; have BP_ := m2_; have HB := l0_; clear  n0_ m0_ m1_ m2_ l0_; clear hb; have hczd_0 := (blk_cell (g := gc) BC_.out 0).trans (show _ = some (.int .i64 x0) from rfl); have hczd_1 := (blk_cell (g := gc) BC_.out 1).trans (show _ = some (.int .i64 x1) from rfl); have hczd_2 := (blk_cell (g := gc) BC_.out 2).trans (show _ = some (.int .i64 x2) from rfl); have hczd_3 := (blk_cell (g := gc) BC_.out 3).trans (show _ = some (.int .i64 0) from rfl); have hczd_4 := (blk_cell (g := gc) BC_.out 4).trans (show _ = some (.int .i64 0) from rfl); have hczd_5 := (blk_cell (g := gc) BC_.out 5).trans (show _ = some (.int .i64 0) from rfl); have hfzd_0 := blk_frozen (g := gc) BC_.out 0; have hfzd_1 := blk_frozen (g := gc) BC_.out 1; have hfzd_2 := blk_frozen (g := gc) BC_.out 2; have hfzd_3 := blk_frozen (g := gc) BC_.out 3; have hfzd_4 := blk_frozen (g := gc) BC_.out 4; have hfzd_5 := blk_frozen (g := gc) BC_.out 5))
        go_roundg (5 - 4)
        case measure => omega
        case rel => exact ⟨4, _, ⟨Or.inr (Or.inr (Or.inr (Or.inr (Or.inl ⟨rfl, rfl, rfl⟩))))⟩, by omega, ⟨by (with_reducible repeat (first | apply Kd.R_alloc | apply Kd.R_drewN | apply Kd.R_drew)); exact Kd.R_mono (Kd.R_far (p := ⟨gc, 3, none⟩) (Kd.R_types HO.out BC_.out (by decide)) (fun _ hk => hk.2) (.int .i64 x3)) (fun _ hk => trivial)⟩, ⟨by (with_reducible repeat (first | refine blk_drewN ?_ _ | refine blk_drew ?_ | refine blk_alloc ?_ _)); refine blk_far ?_ NDga_gc.out _; exact BA_.out⟩, ⟨by (with_reducible repeat (first | refine blk_drewN ?_ _ | refine blk_drew ?_ | refine blk_alloc ?_ _)); refine blk_put (cs := #[.int .i64 x0, .int .i64 x1, .int .i64 x2, .int .i64 0, .int .i64 0, .int .i64 0]) ?_ 3 _ rfl; exact BC_.out⟩, ⟨by (with_reducible repeat (first | refine blk_drewN ?_ _ | refine blk_drew ?_ | refine blk_alloc ?_ _)); refine blk_far ?_ NEgc_gp.out _; exact BP_.out⟩, ⟨by repeat (first | (with_reducible first | exact HB.out | apply below_alloc | apply pw_below_drewN | apply below_drew1 | refine below_set ?_ GA_.out | refine below_set ?_ GC_.out) | exact HB.out)⟩⟩
      · have hxp := (blk_cell (g := gp) BP_.out 4).trans (show _ = some (.pointer (some ⟨gc, 5, none⟩)) from rfl)
        have p10 : 0 ≤ (10 : Int) := by omega
        have q10 : (10 : Int) < (t.length : Int) := by have := LN.out; omega
        obtain ⟨ad10, e10, hx10⟩ := Kd.at_string (Kd.R_reads' HO.out).2.2 10 p10 q10
        cases e10
        (try simp only [show (10 : Int).toNat = 10 from rfl, Nat.reduceMul, Nat.reduceEqDiff, Go.Addr.add, ↓reduceIte] at hx10)
        (try rw [Addr.add_zero'] at hx10)
        have qi10 : (10 < t.length) = True := eq_true (by have := LN.out; omega)
        replace p10 := eq_true p10
        replace q10 := eq_true q10
        go_wp2_with (first | (go_at_call 12; (with_reducible refine (impl_ParseInt.calls (hF := Fit.below HF.out (by repeat (first | (with_reducible first | exact HB.out | apply below_alloc | apply pw_below_drewN | apply below_drew1 | refine below_set ?_ GA_.out | refine below_set ?_ GC_.out) | exact HB.out))) (rdOf ByteArray.empty t 10) x5 y4 _ A4.out).mono ?_); rintro e w_ ⟨rfl, hb⟩; have n0_ := Aside0.mk (Kd.R_below (by (with_reducible repeat (first | apply Kd.R_alloc | apply Kd.R_drewN | apply Kd.R_drew)); exact HO.out) hb); have m0_ := Aside0.mk (blk_below (g := ga) (o := .cells #[.int .i64 0, .int .i64 0, .int .i64 0, .int .i64 0, .int .i64 0, .int .i64 0] 47 (0, 0)) (by (with_reducible repeat (first | refine blk_drewN ?_ _ | refine blk_drew ?_ | refine blk_alloc ?_ _)); exact BA_.out) hb); have m1_ := Aside0.mk (blk_below (g := gc) (o := .cells #[.int .i64 x0, .int .i64 x1, .int .i64 x2, .int .i64 x3, .int .i64 0, .int .i64 0] 47 (0, 0)) (by (with_reducible repeat (first | refine blk_drewN ?_ _ | refine blk_drew ?_ | refine blk_alloc ?_ _)); exact BC_.out) hb); have m2_ := Aside0.mk (blk_below (g := gp) (o := .cells #[.pointer (some ⟨gc, 0, none⟩), .pointer (some ⟨gc, 1, none⟩), .pointer (some ⟨gc, 2, none⟩), .pointer (some ⟨gc, 3, none⟩), .pointer (some ⟨gc, 5, none⟩)] 91 (0, 0)) (by (with_reducible repeat (first | refine blk_drewN ?_ _ | refine blk_drew ?_ | refine blk_alloc ?_ _)); exact BP_.out) hb); have l0_ := Aside0.mk (below_step (by repeat (first | (with_reducible first | exact HB.out | apply below_alloc | apply pw_below_drewN | apply below_drew1 | refine below_set ?_ GA_.out | refine below_set ?_ GC_.out) | exact HB.out)) hb); clear HO; clear BA_; clear BC_; clear BP_; clear HB; have HO := n0_; have BA_ := m0_; have BC_ := m1_; have BP_ := m2_; have HB := l0_; clear  n0_ m0_ m1_ m2_ l0_; clear hb; have hczd_0 := (blk_cell (g := gc) BC_.out 0).trans (show _ = some (.int .i64 x0) from rfl); have hczd_1 := (blk_cell (g := gc) BC_.out 1).trans (show _ = some (.int .i64 x1) from rfl); have hczd_2 := (blk_cell (g := gc) BC_.out 2).trans (show _ = some (.int .i64 x2) from rfl); have hczd_3 := (blk_cell (g := gc) BC_.out 3).trans (show _ = some (.int .i64 x3) from rfl); have hczd_4 := (blk_cell (g := gc) BC_.out 4).trans (show _ = some (.int .i64 0) from rfl); have hczd_5 := (blk_cell (g := gc) BC_.out 5).trans (show _ = some (.int .i64 0) from rfl); have hfzd_0 := blk_frozen (g := gc) BC_.out 0; have hfzd_1 := blk_frozen (g := gc) BC_.out 1; have hfzd_2 := blk_frozen (g := gc) BC_.out 2; have hfzd_3 := blk_frozen (g := gc) BC_.out 3; have hfzd_4 := blk_frozen (g := gc) BC_.out 4; have hfzd_5 := blk_frozen (g := gc) BC_.out 5))
        go_roundg (5 - 5)
        case measure => omega
        case rel => exact ⟨5, _, ⟨Or.inr (Or.inr (Or.inr (Or.inr (Or.inr (⟨rfl, rfl, rfl⟩)))))⟩, by omega, ⟨by (with_reducible repeat (first | apply Kd.R_alloc | apply Kd.R_drewN | apply Kd.R_drew)); exact Kd.R_mono (Kd.R_far (p := ⟨gc, 5, none⟩) (Kd.R_types HO.out BC_.out (by decide)) (fun _ hk => hk.2) (.int .i64 x5)) (fun _ hk => trivial)⟩, ⟨by (with_reducible repeat (first | refine blk_drewN ?_ _ | refine blk_drew ?_ | refine blk_alloc ?_ _)); refine blk_far ?_ NDga_gc.out _; exact BA_.out⟩, ⟨by (with_reducible repeat (first | refine blk_drewN ?_ _ | refine blk_drew ?_ | refine blk_alloc ?_ _)); refine blk_put (cs := #[.int .i64 x0, .int .i64 x1, .int .i64 x2, .int .i64 x3, .int .i64 0, .int .i64 0]) ?_ 5 _ rfl; exact BC_.out⟩, ⟨by (with_reducible repeat (first | refine blk_drewN ?_ _ | refine blk_drew ?_ | refine blk_alloc ?_ _)); refine blk_far ?_ NEgc_gp.out _; exact BP_.out⟩, ⟨by repeat (first | (with_reducible first | exact HB.out | apply below_alloc | apply pw_below_drewN | apply below_drew1 | refine below_set ?_ GA_.out | refine below_set ?_ GC_.out) | exact HB.out)⟩⟩
      · go_wp2
        go_loopg [] 2 (fun gg w' => ∃ (n_ : Nat) (p_ : Int), Aside0 ((n_ = 0 ∧ p_ = 0) ∨ (n_ = 1 ∧ p_ = 1) ∨ (n_ = 2 ∧ p_ = 2)) ∧ 2 - n_ ≤ gg ∧ Aside0 (impl_ParseConfig.pol (3 - n_) p_ (rdOf ByteArray.empty t 0) = some q) ∧ Aside0 (Kd.R Kd.string 9 w' w.heap.size (fun _ => True) (.slice Ao t.length co) t) ∧ Aside0 (w'.heap[ga]? = some (.cells #[.int .i64 0, .int .i64 0, .int .i64 0, .int .i64 0, .int .i64 0, .int .i64 0] 47 (0, 0))) ∧ Aside0 (w'.heap[gc]? = some (.cells #[.int .i64 x0, .int .i64 x1, .int .i64 x2, .int .i64 x3, .int .i64 p_, .int .i64 x5] 47 (0, 0))) ∧ Aside0 (Below w.heap.size w w'))
        case atStart => exact ⟨0, 0, ⟨Or.inl ⟨rfl, rfl⟩⟩, Nat.le_refl _, AQ, ⟨by (with_reducible repeat (first | apply Kd.R_alloc | apply Kd.R_drewN | apply Kd.R_drew)); exact HO.out⟩, ⟨by (with_reducible repeat (first | refine blk_drewN ?_ _ | refine blk_drew ?_ | refine blk_alloc ?_ _)); exact BA_.out⟩, ⟨by (with_reducible repeat (first | refine blk_drewN ?_ _ | refine blk_drew ?_ | refine blk_alloc ?_ _)); exact BC_.out⟩, ⟨by repeat (first | (with_reducible first | exact HB.out | apply below_alloc | apply pw_below_drewN | apply below_drew1 | refine below_set ?_ GA_.out | refine below_set ?_ GC_.out) | exact HB.out)⟩⟩
        case round =>
          clear HO BA_ BC_ BP_ HB AQ hgg
          obtain ⟨n_, p_, ⟨hd_⟩, hgg, AQ, HO, BA_, BC_, HB⟩ := hrel
          rcases hd_ with ⟨rfl, rfl⟩ | ⟨rfl, rfl⟩ | ⟨rfl, rfl⟩
          · have hQ := AQ.out
            clear AQ
            rw [show (3 - 0 : Nat) = 2 + 1 from rfl, impl_ParseConfig.pol, if_pos (by decide)] at hQ
            obtain ⟨nm, hn_, hQ⟩ := Option.bind_eq_some_iff.mp hQ
            have AN := Aside0.mk hn_
            clear hn_
            by_cases c8 : nm.toList = (rdOf ByteArray.empty t 0).toList
            · rw [if_pos c8] at hQ
              have c8b0 : (nm.toList == (rdOf ByteArray.empty t 0).toList) = true := beq_iff_eq.mpr c8
              have c8b1 : (nm.toList != (rdOf ByteArray.empty t 0).toList) = false := bne_eq_false_iff_eq.mpr c8
              clear c8
              obtain rfl := Option.some.inj hQ
              clear hQ
              have p0 : 0 ≤ (0 : Int) := by omega
              have q0 : (0 : Int) < (t.length : Int) := by have := LN.out; omega
              obtain ⟨ad0, e0, hx0⟩ := Kd.at_string (Kd.R_reads' HO.out).2.2 0 p0 q0
              cases e0
              (try simp only [show (0 : Int).toNat = 0 from rfl, Nat.reduceMul, Nat.reduceEqDiff, Go.Addr.add, ↓reduceIte] at hx0)
              (try rw [Addr.add_zero'] at hx0)
              have qi0 : (0 < t.length) = True := eq_true (by have := LN.out; omega)
              replace p0 := eq_true p0
              replace q0 := eq_true q0
              have hc4 := (blk_cell (g := gc) BC_.out 4).trans (show _ = some (.int .i64 0) from rfl)
              go_wp2
              refine start_ (n := 12) (S := fun w' => w'.cell? ⟨gc, 4, none⟩ = some (.int .i64 0) ∧ w'.cell? ad0 = some (.string (rdOf ByteArray.empty t 0))) (ds := []) #[false, false, false, false, false, false, false, false, false, false, false, false] (by kernel_rfl) rfl rfl ⟨hc4, hx0⟩ (fun hHeld => ?_); refine with_tabW impl_ParseConfig.tab10 impl_ParseConfig.bits10 (fun HT_ HW_ => ?_)
              skip
              refine pure_ (i := 0) (N := some 40) (v := ?_) (a' := ?_) #[true, false, false, false, false, false, false, false, false, false, false, false] rfl rfl (any_of HT_.out (by kernel_rfl)) (fun _ _ _ h => h) (Or.inl ⟨by rfl, ?_⟩) ?_ ?_
              rotate_left
              · intro w'
                go_simp
                with_reducible rfl
              rotate_left
              · simp only [Act.put, List.setIfInBounds_toArray, List.set_cons_zero, List.set_cons_succ, i64_w, i32_w]
                rfl
              refine take_ (i := 1) (N := some 41) (v := ?_) (a' := ?_) #[true, true, false, false, false, false, false, false, false, false, false, false] rfl rfl (take_ofW HT_.out HW_.out (by kernel_rfl)) (fun _ _ _ h => h) (Or.inl ⟨by rfl, ?_⟩) hHeld ?_ ?_
              rotate_left
              · rintro w' ⟨s0, s1⟩
                go_simp
                with_reducible rfl
              rotate_left
              · simp only [Act.put, List.setIfInBounds_toArray, List.set_cons_zero, List.set_cons_succ, i64_w, i32_w]
                rfl
              refine pure_ (i := 2) (N := some 42) (v := ?_) (a' := ?_) #[true, true, true, false, false, false, false, false, false, false, false, false] rfl rfl (any_of HT_.out (by kernel_rfl)) (fun _ _ _ h => h) (Or.inl ⟨by rfl, ?_⟩) ?_ ?_
              rotate_left
              · intro w'
                go_simp
                with_reducible rfl
              rotate_left
              · simp only [Act.put, List.setIfInBounds_toArray, List.set_cons_zero, List.set_cons_succ, i64_w, i32_w]
                rfl
              refine pure_ (i := 3) (N := some 43) (v := ?_) (a' := ?_) #[true, true, true, true, false, false, false, false, false, false, false, false] rfl rfl (any_of HT_.out (by kernel_rfl)) (fun _ _ _ h => h) (Or.inl ⟨by rfl, ?_⟩) ?_ ?_
              rotate_left
              · intro w'
                go_simp
                with_reducible rfl
              rotate_left
              · simp only [Act.put, List.setIfInBounds_toArray, List.set_cons_zero, List.set_cons_succ, i64_w, i32_w]
                rfl
              refine pure_ (i := 4) (N := some 44) (v := ?_) (a' := ?_) #[true, true, true, true, true, false, false, false, false, false, false, false] rfl rfl (any_of HT_.out (by kernel_rfl)) (fun _ _ _ h => h) (Or.inl ⟨by rfl, ?_⟩) ?_ ?_
              rotate_left
              · intro w'
                go_simp
                with_reducible rfl
              rotate_left
              · simp only [Act.put, List.setIfInBounds_toArray, List.set_cons_zero, List.set_cons_succ, i64_w, i32_w]
                rfl
              refine take_ (i := 5) (N := some 45) (v := ?_) (a' := ?_) #[true, true, true, true, true, true, false, false, false, false, false, false] rfl rfl (take_ofW HT_.out HW_.out (by kernel_rfl)) (fun _ _ _ h => h) (Or.inl ⟨by rfl, ?_⟩) hHeld ?_ ?_
              rotate_left
              · rintro w' ⟨s0, s1⟩
                go_simp
                with_reducible rfl
              rotate_left
              · simp only [Act.put, List.setIfInBounds_toArray, List.set_cons_zero, List.set_cons_succ, i64_w, i32_w]
                rfl
              refine pure_ (i := 7) (N := some 47) (v := ?_) (a' := ?_) #[true, true, true, true, true, true, false, true, false, false, false, false] rfl rfl (any_of HT_.out (by kernel_rfl)) (fun _ _ _ h => h) (Or.inl ⟨by rfl, ?_⟩) ?_ ?_
              rotate_left
              · intro w'
                go_simp
                with_reducible rfl
              rotate_left
              · simp only [Act.put, List.setIfInBounds_toArray, List.set_cons_zero, List.set_cons_succ, i64_w, i32_w]
                rfl
              refine pure_ (i := 8) (N := some 48) (v := ?_) (a' := ?_) #[true, true, true, true, true, true, false, true, true, false, false, false] rfl rfl (any_of HT_.out (by kernel_rfl)) (fun _ _ _ h => h) (Or.inl ⟨by rfl, ?_⟩) ?_ ?_
              rotate_left
              · intro w'
                go_simp
                with_reducible rfl
              rotate_left
              · simp only [Act.put, List.setIfInBounds_toArray, List.set_cons_zero, List.set_cons_succ, i64_w, i32_w]
                rfl
              refine take_ (i := 9) (N := some 49) (v := ?_) (a' := ?_) #[true, true, true, true, true, true, false, true, true, true, false, false] rfl rfl (take_ofW HT_.out HW_.out (by kernel_rfl)) (fun _ _ _ h => h) (Or.inl ⟨by rfl, ?_⟩) hHeld ?_ ?_
              rotate_left
              · rintro w' ⟨s0, s1⟩
                go_simp
                with_reducible rfl
              rotate_left
              · simp only [Act.put, List.setIfInBounds_toArray, List.set_cons_zero, List.set_cons_succ, i64_w, i32_w]
                rfl
              refine one_ (i := 6) (N := some 46) #[true, true, true, true, true, true, true, true, true, true, false, false] rfl rfl (one_of HT_.out (by kernel_rfl)) (by decide) (fun K hK => ?_)
              refine goes_ Tryd.func94 (by kernel_rfl) rfl #[.int .i64 0] (by rfl) rfl rfl (by (try simp only [List.map_toArray, List.map_cons, List.map_nil]); first | done | rfl) ?_
              with_reducible refine (impl_PolicyName.calls 0 nm _ AN.out).mono ?_
              rintro e w_ ⟨rfl, hb⟩
              have HS0_ := (hb.cell (World.block_lt_of_cell? _ _ (hHeld.1))).trans (hHeld.1)
              have HS1_ := (hb.cell (World.block_lt_of_cell? _ _ (hHeld.2))).trans (hHeld.2)
              refine ⟨_, rfl, ?_⟩
              have n0_ := Aside0.mk (Kd.R_below (by (with_reducible repeat (first | apply Kd.R_alloc | apply Kd.R_drewN | apply Kd.R_drew)); exact HO.out) hb)
              have m0_ := Aside0.mk (blk_below (g := ga) (o := .cells #[.int .i64 0, .int .i64 0, .int .i64 0, .int .i64 0, .int .i64 0, .int .i64 0] 47 (0, 0)) (by (with_reducible repeat (first | refine blk_drewN ?_ _ | refine blk_drew ?_ | refine blk_alloc ?_ _)); exact BA_.out) hb)
              have m1_ := Aside0.mk (blk_below (g := gc) (o := .cells #[.int .i64 x0, .int .i64 x1, .int .i64 x2, .int .i64 x3, .int .i64 0, .int .i64 x5] 47 (0, 0)) (by (with_reducible repeat (first | refine blk_drewN ?_ _ | refine blk_drew ?_ | refine blk_alloc ?_ _)); exact BC_.out) hb)
              have l0_ := Aside0.mk (below_step (by repeat (first | (with_reducible first | exact HB.out | apply below_alloc | apply pw_below_drewN | apply below_drew1 | refine below_set ?_ GA_.out | refine below_set ?_ GC_.out) | exact HB.out)) hb)
              clear HO
              clear BA_
              clear BC_
              clear HB
              have HO := n0_
              have BA_ := m0_
              have BC_ := m1_
              have HB := l0_
              clear  n0_ m0_ m1_ l0_
              clear hb
              refine hK.out _ _ ⟨HS0_, HS1_⟩ (fun hHeld => ?_)
              clear hK K HS0_ HS1_ hc4 hx0
              refine norm_ (a' := ?_) ?_ ?_
              rotate_left
              · show Act.put _ (some 46) _ = _
                simp only [Act.put, List.setIfInBounds_toArray, List.set_cons_zero, List.set_cons_succ, i64_w, i32_w]
                rfl
              refine pure_ (i := 10) (N := some 50) (v := ?_) (a' := ?_) #[true, true, true, true, true, true, true, true, true, true, true, false] rfl rfl (any_of HT_.out (by kernel_rfl)) (fun _ _ _ h => h) (Or.inl ⟨by rfl, ?_⟩) ?_ ?_
              rotate_left
              · intro w'
                go_simp
                with_reducible rfl
              rotate_left
              · simp only [Act.put, List.setIfInBounds_toArray, List.set_cons_zero, List.set_cons_succ, i64_w, i32_w]
                rfl
              refine pure_ (i := 11) (N := some 51) (v := ?_) (a' := ?_) #[true, true, true, true, true, true, true, true, true, true, true, true] rfl rfl (any_of HT_.out (by kernel_rfl)) (fun _ _ _ h => h) (Or.inl ⟨by rfl, ?_⟩) ?_ ?_
              rotate_left
              · intro w'
                go_simp
                with_reducible rfl
              rotate_left
              · simp only [Act.put, List.setIfInBounds_toArray, List.set_cons_zero, List.set_cons_succ, i64_w, i32_w]
                rfl
              refine done_ (done_of HT_.out (by kernel_rfl)) ?_
              try clear hHeld
              have hczk_0 := (blk_cell (g := gc) BC_.out 0).trans (show _ = some (.int .i64 x0) from rfl)
              have hczk_1 := (blk_cell (g := gc) BC_.out 1).trans (show _ = some (.int .i64 x1) from rfl)
              have hczk_2 := (blk_cell (g := gc) BC_.out 2).trans (show _ = some (.int .i64 x2) from rfl)
              have hczk_3 := (blk_cell (g := gc) BC_.out 3).trans (show _ = some (.int .i64 x3) from rfl)
              have hczk_4 := (blk_cell (g := gc) BC_.out 4).trans (show _ = some (.int .i64 0) from rfl)
              have hczk_5 := (blk_cell (g := gc) BC_.out 5).trans (show _ = some (.int .i64 x5) from rfl)
              have hfzk_0 := blk_frozen (g := gc) BC_.out 0
              have hfzk_1 := blk_frozen (g := gc) BC_.out 1
              have hfzk_2 := blk_frozen (g := gc) BC_.out 2
              have hfzk_3 := blk_frozen (g := gc) BC_.out 3
              have hfzk_4 := blk_frozen (g := gc) BC_.out 4
              have hfzk_5 := blk_frozen (g := gc) BC_.out 5
              by_cases c9 : u.toList = a0.toList
              · have H := HH.out
                rw [if_pos c9] at H
                have c9b0 : (u.toList == a0.toList) = true := beq_iff_eq.mpr c9
                have c9b1 : (u.toList != a0.toList) = false := bne_eq_false_iff_eq.mpr c9
                clear c9 HH
                simp only [Option.some.injEq, Prod.mk.injEq] at H
                obtain ⟨rfl, rfl, rfl, rfl, rfl, rfl, rfl⟩ := H
                go_wp2_with (first | (go_at_call 56; (with_reducible refine (impl_FormatConfig.calls (hF := Fit.below HF.out (by repeat (first | (with_reducible first | exact HB.out | apply below_alloc | apply pw_below_drewN | apply below_drew1 | refine below_set ?_ GA_.out | refine below_set ?_ GC_.out) | exact HB.out))) x0 x1 x2 x3 0 x5 u _ AU.out).mono ?_); rintro e w_ ⟨rfl, hb⟩; have m0_ := Aside0.mk (blk_below (g := ga) (o := .cells #[.int .i64 0, .int .i64 0, .int .i64 0, .int .i64 0, .int .i64 0, .int .i64 0] 47 (0, 0)) (by (with_reducible repeat (first | refine blk_drewN ?_ _ | refine blk_drew ?_ | refine blk_alloc ?_ _)); exact BA_.out) hb); have m1_ := Aside0.mk (blk_below (g := gc) (o := .cells #[.int .i64 x0, .int .i64 x1, .int .i64 x2, .int .i64 x3, .int .i64 0, .int .i64 x5] 47 (0, 0)) (by (with_reducible repeat (first | refine blk_drewN ?_ _ | refine blk_drew ?_ | refine blk_alloc ?_ _)); exact BC_.out) hb); have l0_ := Aside0.mk (below_step (by repeat (first | (with_reducible first | exact HB.out | apply below_alloc | apply pw_below_drewN | apply below_drew1 | refine below_set ?_ GA_.out | refine below_set ?_ GC_.out) | exact HB.out)) hb); clear BA_; clear BC_; clear HB; have BA_ := m0_; have BC_ := m1_; have HB := l0_; clear  m0_ m1_ l0_; clear hb; have hcze_0 := (blk_cell (g := gc) BC_.out 0).trans (show _ = some (.int .i64 x0) from rfl); have hcze_1 := (blk_cell (g := gc) BC_.out 1).trans (show _ = some (.int .i64 x1) from rfl); have hcze_2 := (blk_cell (g := gc) BC_.out 2).trans (show _ = some (.int .i64 x2) from rfl); have hcze_3 := (blk_cell (g := gc) BC_.out 3).trans (show _ = some (.int .i64 x3) from rfl); have hcze_4 := (blk_cell (g := gc) BC_.out 4).trans (show _ = some (.int .i64 0) from rfl); have hcze_5 := (blk_cell (g := gc) BC_.out 5).trans (show _ = some (.int .i64 x5) from rfl); have hfze_0 := blk_frozen (g := gc) BC_.out 0; have hfze_1 := blk_frozen (g := gc) BC_.out 1; have hfze_2 := blk_frozen (g := gc) BC_.out 2; have hfze_3 := blk_frozen (g := gc) BC_.out 3; have hfze_4 := blk_frozen (g := gc) BC_.out 4; have hfze_5 := blk_frozen (g := gc) BC_.out 5; have hczf_0 := (blk_cell (g := ga) BA_.out 0).trans (show _ = some (.int .i64 0) from rfl); have hczf_1 := (blk_cell (g := ga) BA_.out 1).trans (show _ = some (.int .i64 0) from rfl); have hczf_2 := (blk_cell (g := ga) BA_.out 2).trans (show _ = some (.int .i64 0) from rfl); have hczf_3 := (blk_cell (g := ga) BA_.out 3).trans (show _ = some (.int .i64 0) from rfl); have hczf_4 := (blk_cell (g := ga) BA_.out 4).trans (show _ = some (.int .i64 0) from rfl); have hczf_5 := (blk_cell (g := ga) BA_.out 5).trans (show _ = some (.int .i64 0) from rfl); have hfzf_0 := blk_frozen (g := ga) BA_.out 0; have hfzf_1 := blk_frozen (g := ga) BA_.out 1; have hfzf_2 := blk_frozen (g := ga) BA_.out 2; have hfzf_3 := blk_frozen (g := ga) BA_.out 3; have hfzf_4 := blk_frozen (g := ga) BA_.out 4; have hfzf_5 := blk_frozen (g := ga) BA_.out 5))
                refine bodyPost_ret (results_ct rfl _ _ ga 47 #[.int .i64 x0, .int .i64 x1, .int .i64 x2, .int .i64 x3, .int .i64 0, .int .i64 x5] (0, 0) _ rfl (by (with_reducible repeat (first | refine blk_drewN ?_ _ | refine blk_drew ?_ | refine blk_alloc ?_ _)); refine blk_put (cs := #[.int .i64 x0, .int .i64 x1, .int .i64 x2, .int .i64 x3, .int .i64 0, .int .i64 0]) ?_ 5 _ rfl; (with_reducible repeat (first | refine blk_drewN ?_ _ | refine blk_drew ?_ | refine blk_alloc ?_ _)); refine blk_put (cs := #[.int .i64 x0, .int .i64 x1, .int .i64 x2, .int .i64 x3, .int .i64 0, .int .i64 0]) ?_ 4 _ rfl; (with_reducible repeat (first | refine blk_drewN ?_ _ | refine blk_drew ?_ | refine blk_alloc ?_ _)); refine blk_put (cs := #[.int .i64 x0, .int .i64 x1, .int .i64 x2, .int .i64 0, .int .i64 0, .int .i64 0]) ?_ 3 _ rfl; (with_reducible repeat (first | refine blk_drewN ?_ _ | refine blk_drew ?_ | refine blk_alloc ?_ _)); refine blk_put (cs := #[.int .i64 x0, .int .i64 x1, .int .i64 0, .int .i64 0, .int .i64 0, .int .i64 0]) ?_ 2 _ rfl; (with_reducible repeat (first | refine blk_drewN ?_ _ | refine blk_drew ?_ | refine blk_alloc ?_ _)); refine blk_put (cs := #[.int .i64 x0, .int .i64 0, .int .i64 0, .int .i64 0, .int .i64 0, .int .i64 0]) ?_ 1 _ rfl; (with_reducible repeat (first | refine blk_drewN ?_ _ | refine blk_drew ?_ | refine blk_alloc ?_ _)); refine blk_put (cs := #[.int .i64 0, .int .i64 0, .int .i64 0, .int .i64 0, .int .i64 0, .int .i64 0]) ?_ 0 _ rfl; (with_reducible repeat (first | refine blk_drewN ?_ _ | refine blk_drew ?_ | refine blk_alloc ?_ _)); exact BA_.out) Tryd.underlying47 rfl (by kernel_rfl)) rfl ?_
                exact ⟨by first | rfl | (simp <;> rfl) | (simp [*] <;> rfl), by repeat (first | (with_reducible first | exact HB.out | apply below_alloc | apply pw_below_drewN | apply below_drew1 | refine below_set ?_ GA_.out | refine below_set ?_ GC_.out) | exact HB.out)⟩
              · have H := HH.out
                rw [if_neg c9] at H
                have c9b0 : (u.toList == a0.toList) = false := beq_eq_false_iff_ne.mpr c9
                have c9b1 : (u.toList != a0.toList) = true := bne_iff_ne.mpr c9
                clear c9 HH
                simp only [Option.some.injEq, Prod.mk.injEq] at H
                obtain ⟨rfl, rfl, rfl, rfl, rfl, rfl, rfl⟩ := H
                go_wp2_with (first | (go_at_call 56; (with_reducible refine (impl_FormatConfig.calls (hF := Fit.below HF.out (by repeat (first | (with_reducible first | exact HB.out | apply below_alloc | apply pw_below_drewN | apply below_drew1 | refine below_set ?_ GA_.out | refine below_set ?_ GC_.out) | exact HB.out))) x0 x1 x2 x3 0 x5 u _ AU.out).mono ?_); rintro e w_ ⟨rfl, hb⟩; have m0_ := Aside0.mk (blk_below (g := ga) (o := .cells #[.int .i64 0, .int .i64 0, .int .i64 0, .int .i64 0, .int .i64 0, .int .i64 0] 47 (0, 0)) (by (with_reducible repeat (first | refine blk_drewN ?_ _ | refine blk_drew ?_ | refine blk_alloc ?_ _)); exact BA_.out) hb); have m1_ := Aside0.mk (blk_below (g := gc) (o := .cells #[.int .i64 x0, .int .i64 x1, .int .i64 x2, .int .i64 x3, .int .i64 0, .int .i64 x5] 47 (0, 0)) (by (with_reducible repeat (first | refine blk_drewN ?_ _ | refine blk_drew ?_ | refine blk_alloc ?_ _)); exact BC_.out) hb); have l0_ := Aside0.mk (below_step (by repeat (first | (with_reducible first | exact HB.out | apply below_alloc | apply pw_below_drewN | apply below_drew1 | refine below_set ?_ GA_.out | refine below_set ?_ GC_.out) | exact HB.out)) hb); clear BA_; clear BC_; clear HB; have BA_ := m0_; have BC_ := m1_; have HB := l0_; clear  m0_ m1_ l0_; clear hb; have hcze_0 := (blk_cell (g := gc) BC_.out 0).trans (show _ = some (.int .i64 x0) from rfl); have hcze_1 := (blk_cell (g := gc) BC_.out 1).trans (show _ = some (.int .i64 x1) from rfl); have hcze_2 := (blk_cell (g := gc) BC_.out 2).trans (show _ = some (.int .i64 x2) from rfl); have hcze_3 := (blk_cell (g := gc) BC_.out 3).trans (show _ = some (.int .i64 x3) from rfl); have hcze_4 := (blk_cell (g := gc) BC_.out 4).trans (show _ = some (.int .i64 0) from rfl); have hcze_5 := (blk_cell (g := gc) BC_.out 5).trans (show _ = some (.int .i64 x5) from rfl); have hfze_0 := blk_frozen (g := gc) BC_.out 0; have hfze_1 := blk_frozen (g := gc) BC_.out 1; have hfze_2 := blk_frozen (g := gc) BC_.out 2; have hfze_3 := blk_frozen (g := gc) BC_.out 3; have hfze_4 := blk_frozen (g := gc) BC_.out 4; have hfze_5 := blk_frozen (g := gc) BC_.out 5; have hczf_0 := (blk_cell (g := ga) BA_.out 0).trans (show _ = some (.int .i64 0) from rfl); have hczf_1 := (blk_cell (g := ga) BA_.out 1).trans (show _ = some (.int .i64 0) from rfl); have hczf_2 := (blk_cell (g := ga) BA_.out 2).trans (show _ = some (.int .i64 0) from rfl); have hczf_3 := (blk_cell (g := ga) BA_.out 3).trans (show _ = some (.int .i64 0) from rfl); have hczf_4 := (blk_cell (g := ga) BA_.out 4).trans (show _ = some (.int .i64 0) from rfl); have hczf_5 := (blk_cell (g := ga) BA_.out 5).trans (show _ = some (.int .i64 0) from rfl); have hfzf_0 := blk_frozen (g := ga) BA_.out 0; have hfzf_1 := blk_frozen (g := ga) BA_.out 1; have hfzf_2 := blk_frozen (g := ga) BA_.out 2; have hfzf_3 := blk_frozen (g := ga) BA_.out 3; have hfzf_4 := blk_frozen (g := ga) BA_.out 4; have hfzf_5 := blk_frozen (g := ga) BA_.out 5))
                refine bodyPost_ret (results_ct rfl _ _ ga 47 #[.int .i64 0, .int .i64 0, .int .i64 0, .int .i64 0, .int .i64 0, .int .i64 0] (0, 0) _ rfl (by (with_reducible repeat (first | refine blk_drewN ?_ _ | refine blk_drew ?_ | refine blk_alloc ?_ _)); refine blk_put (cs := #[.int .i64 0, .int .i64 0, .int .i64 0, .int .i64 0, .int .i64 0, .int .i64 0]) ?_ 5 _ rfl; (with_reducible repeat (first | refine blk_drewN ?_ _ | refine blk_drew ?_ | refine blk_alloc ?_ _)); refine blk_put (cs := #[.int .i64 0, .int .i64 0, .int .i64 0, .int .i64 0, .int .i64 0, .int .i64 0]) ?_ 4 _ rfl; (with_reducible repeat (first | refine blk_drewN ?_ _ | refine blk_drew ?_ | refine blk_alloc ?_ _)); refine blk_put (cs := #[.int .i64 0, .int .i64 0, .int .i64 0, .int .i64 0, .int .i64 0, .int .i64 0]) ?_ 3 _ rfl; (with_reducible repeat (first | refine blk_drewN ?_ _ | refine blk_drew ?_ | refine blk_alloc ?_ _)); refine blk_put (cs := #[.int .i64 0, .int .i64 0, .int .i64 0, .int .i64 0, .int .i64 0, .int .i64 0]) ?_ 2 _ rfl; (with_reducible repeat (first | refine blk_drewN ?_ _ | refine blk_drew ?_ | refine blk_alloc ?_ _)); refine blk_put (cs := #[.int .i64 0, .int .i64 0, .int .i64 0, .int .i64 0, .int .i64 0, .int .i64 0]) ?_ 1 _ rfl; (with_reducible repeat (first | refine blk_drewN ?_ _ | refine blk_drew ?_ | refine blk_alloc ?_ _)); refine blk_put (cs := #[.int .i64 0, .int .i64 0, .int .i64 0, .int .i64 0, .int .i64 0, .int .i64 0]) ?_ 0 _ rfl; (with_reducible repeat (first | refine blk_drewN ?_ _ | refine blk_drew ?_ | refine blk_alloc ?_ _)); exact BA_.out) Tryd.underlying47 rfl (by kernel_rfl)) rfl ?_
                exact ⟨by first | rfl | (simp <;> rfl) | (simp [*] <;> rfl), by repeat (first | (with_reducible first | exact HB.out | apply below_alloc | apply pw_below_drewN | apply below_drew1 | refine below_set ?_ GA_.out | refine below_set ?_ GC_.out) | exact HB.out)⟩
            · rw [if_neg c8] at hQ
              have c8b0 : (nm.toList == (rdOf ByteArray.empty t 0).toList) = false := beq_eq_false_iff_ne.mpr c8
              have c8b1 : (nm.toList != (rdOf ByteArray.empty t 0).toList) = true := bne_iff_ne.mpr c8
              clear c8
              have AQ := Aside0.mk hQ
              clear hQ
              have p0 : 0 ≤ (0 : Int) := by omega
              have q0 : (0 : Int) < (t.length : Int) := by have := LN.out; omega
              obtain ⟨ad0, e0, hx0⟩ := Kd.at_string (Kd.R_reads' HO.out).2.2 0 p0 q0
              cases e0
              (try simp only [show (0 : Int).toNat = 0 from rfl, Nat.reduceMul, Nat.reduceEqDiff, Go.Addr.add, ↓reduceIte] at hx0)
              (try rw [Addr.add_zero'] at hx0)
              have qi0 : (0 < t.length) = True := eq_true (by have := LN.out; omega)
              replace p0 := eq_true p0
              replace q0 := eq_true q0
              have hc4 := (blk_cell (g := gc) BC_.out 4).trans (show _ = some (.int .i64 0) from rfl)
              go_wp2
              refine start_ (n := 12) (S := fun w' => w'.cell? ⟨gc, 4, none⟩ = some (.int .i64 0) ∧ w'.cell? ad0 = some (.string (rdOf ByteArray.empty t 0))) (ds := []) #[false, false, false, false, false, false, false, false, false, false, false, false] (by kernel_rfl) rfl rfl ⟨hc4, hx0⟩ (fun hHeld => ?_); refine with_tabW impl_ParseConfig.tab10 impl_ParseConfig.bits10 (fun HT_ HW_ => ?_)
              skip
              refine pure_ (i := 0) (N := some 40) (v := ?_) (a' := ?_) #[true, false, false, false, false, false, false, false, false, false, false, false] rfl rfl (any_of HT_.out (by kernel_rfl)) (fun _ _ _ h => h) (Or.inl ⟨by rfl, ?_⟩) ?_ ?_
              rotate_left
              · intro w'
                go_simp
                with_reducible rfl
              rotate_left
              · simp only [Act.put, List.setIfInBounds_toArray, List.set_cons_zero, List.set_cons_succ, i64_w, i32_w]
                rfl
              refine take_ (i := 1) (N := some 41) (v := ?_) (a' := ?_) #[true, true, false, false, false, false, false, false, false, false, false, false] rfl rfl (take_ofW HT_.out HW_.out (by kernel_rfl)) (fun _ _ _ h => h) (Or.inl ⟨by rfl, ?_⟩) hHeld ?_ ?_
              rotate_left
              · rintro w' ⟨s0, s1⟩
                go_simp
                with_reducible rfl
              rotate_left
              · simp only [Act.put, List.setIfInBounds_toArray, List.set_cons_zero, List.set_cons_succ, i64_w, i32_w]
                rfl
              refine pure_ (i := 2) (N := some 42) (v := ?_) (a' := ?_) #[true, true, true, false, false, false, false, false, false, false, false, false] rfl rfl (any_of HT_.out (by kernel_rfl)) (fun _ _ _ h => h) (Or.inl ⟨by rfl, ?_⟩) ?_ ?_
              rotate_left
              · intro w'
                go_simp
                with_reducible rfl
              rotate_left
              · simp only [Act.put, List.setIfInBounds_toArray, List.set_cons_zero, List.set_cons_succ, i64_w, i32_w]
                rfl
              refine pure_ (i := 3) (N := some 43) (v := ?_) (a' := ?_) #[true, true, true, true, false, false, false, false, false, false, false, false] rfl rfl (any_of HT_.out (by kernel_rfl)) (fun _ _ _ h => h) (Or.inl ⟨by rfl, ?_⟩) ?_ ?_
              rotate_left
              · intro w'
                go_simp
                with_reducible rfl
              rotate_left
              · simp only [Act.put, List.setIfInBounds_toArray, List.set_cons_zero, List.set_cons_succ, i64_w, i32_w]
                rfl
              refine pure_ (i := 4) (N := some 44) (v := ?_) (a' := ?_) #[true, true, true, true, true, false, false, false, false, false, false, false] rfl rfl (any_of HT_.out (by kernel_rfl)) (fun _ _ _ h => h) (Or.inl ⟨by rfl, ?_⟩) ?_ ?_
              rotate_left
              · intro w'
                go_simp
                with_reducible rfl
              rotate_left
              · simp only [Act.put, List.setIfInBounds_toArray, List.set_cons_zero, List.set_cons_succ, i64_w, i32_w]
                rfl
              refine take_ (i := 5) (N := some 45) (v := ?_) (a' := ?_) #[true, true, true, true, true, true, false, false, false, false, false, false] rfl rfl (take_ofW HT_.out HW_.out (by kernel_rfl)) (fun _ _ _ h => h) (Or.inl ⟨by rfl, ?_⟩) hHeld ?_ ?_
              rotate_left
              · rintro w' ⟨s0, s1⟩
                go_simp
                with_reducible rfl
              rotate_left
              · simp only [Act.put, List.setIfInBounds_toArray, List.set_cons_zero, List.set_cons_succ, i64_w, i32_w]
                rfl
              refine pure_ (i := 7) (N := some 47) (v := ?_) (a' := ?_) #[true, true, true, true, true, true, false, true, false, false, false, false] rfl rfl (any_of HT_.out (by kernel_rfl)) (fun _ _ _ h => h) (Or.inl ⟨by rfl, ?_⟩) ?_ ?_
              rotate_left
              · intro w'
                go_simp
                with_reducible rfl
              rotate_left
              · simp only [Act.put, List.setIfInBounds_toArray, List.set_cons_zero, List.set_cons_succ, i64_w, i32_w]
                rfl
              refine pure_ (i := 8) (N := some 48) (v := ?_) (a' := ?_) #[true, true, true, true, true, true, false, true, true, false, false, false] rfl rfl (any_of HT_.out (by kernel_rfl)) (fun _ _ _ h => h) (Or.inl ⟨by rfl, ?_⟩) ?_ ?_
              rotate_left
              · intro w'
                go_simp
                with_reducible rfl
              rotate_left
              · simp only [Act.put, List.setIfInBounds_toArray, List.set_cons_zero, List.set_cons_succ, i64_w, i32_w]
                rfl
              refine take_ (i := 9) (N := some 49) (v := ?_) (a' := ?_) #[true, true, true, true, true, true, false, true, true, true, false, false] rfl rfl (take_ofW HT_.out HW_.out (by kernel_rfl)) (fun _ _ _ h => h) (Or.inl ⟨by rfl, ?_⟩) hHeld ?_ ?_
              rotate_left
              · rintro w' ⟨s0, s1⟩
                go_simp
                with_reducible rfl
              rotate_left
              · simp only [Act.put, List.setIfInBounds_toArray, List.set_cons_zero, List.set_cons_succ, i64_w, i32_w]
                rfl
              refine one_ (i := 6) (N := some 46) #[true, true, true, true, true, true, true, true, true, true, false, false] rfl rfl (one_of HT_.out (by kernel_rfl)) (by decide) (fun K hK => ?_)
              refine goes_ Tryd.func94 (by kernel_rfl) rfl #[.int .i64 0] (by rfl) rfl rfl (by (try simp only [List.map_toArray, List.map_cons, List.map_nil]); first | done | rfl) ?_
              with_reducible refine (impl_PolicyName.calls 0 nm _ AN.out).mono ?_
              rintro e w_ ⟨rfl, hb⟩
              have HS0_ := (hb.cell (World.block_lt_of_cell? _ _ (hHeld.1))).trans (hHeld.1)
              have HS1_ := (hb.cell (World.block_lt_of_cell? _ _ (hHeld.2))).trans (hHeld.2)
              refine ⟨_, rfl, ?_⟩
              have n0_ := Aside0.mk (Kd.R_below (by (with_reducible repeat (first | apply Kd.R_alloc | apply Kd.R_drewN | apply Kd.R_drew)); exact HO.out) hb)
              have m0_ := Aside0.mk (blk_below (g := ga) (o := .cells #[.int .i64 0, .int .i64 0, .int .i64 0, .int .i64 0, .int .i64 0, .int .i64 0] 47 (0, 0)) (by (with_reducible repeat (first | refine blk_drewN ?_ _ | refine blk_drew ?_ | refine blk_alloc ?_ _)); exact BA_.out) hb)
              have m1_ := Aside0.mk (blk_below (g := gc) (o := .cells #[.int .i64 x0, .int .i64 x1, .int .i64 x2, .int .i64 x3, .int .i64 0, .int .i64 x5] 47 (0, 0)) (by (with_reducible repeat (first | refine blk_drewN ?_ _ | refine blk_drew ?_ | refine blk_alloc ?_ _)); exact BC_.out) hb)
              have l0_ := Aside0.mk (below_step (by repeat (first | (with_reducible first | exact HB.out | apply below_alloc | apply pw_below_drewN | apply below_drew1 | refine below_set ?_ GA_.out | refine below_set ?_ GC_.out) | exact HB.out)) hb)
              clear HO
              clear BA_
              clear BC_
              clear HB
              have HO := n0_
              have BA_ := m0_
              have BC_ := m1_
              have HB := l0_
              clear  n0_ m0_ m1_ l0_
              clear hb
              refine hK.out _ _ ⟨HS0_, HS1_⟩ (fun hHeld => ?_)
              clear hK K HS0_ HS1_ hc4 hx0
              refine norm_ (a' := ?_) ?_ ?_
              rotate_left
              · show Act.put _ (some 46) _ = _
                simp only [Act.put, List.setIfInBounds_toArray, List.set_cons_zero, List.set_cons_succ, i64_w, i32_w]
                rfl
              refine pure_ (i := 10) (N := some 50) (v := ?_) (a' := ?_) #[true, true, true, true, true, true, true, true, true, true, true, false] rfl rfl (any_of HT_.out (by kernel_rfl)) (fun _ _ _ h => h) (Or.inl ⟨by rfl, ?_⟩) ?_ ?_
              rotate_left
              · intro w'
                go_simp
                with_reducible rfl
              rotate_left
              · simp only [Act.put, List.setIfInBounds_toArray, List.set_cons_zero, List.set_cons_succ, i64_w, i32_w]
                rfl
              refine pure_ (i := 11) (N := some 51) (v := ?_) (a' := ?_) #[true, true, true, true, true, true, true, true, true, true, true, true] rfl rfl (any_of HT_.out (by kernel_rfl)) (fun _ _ _ h => h) (Or.inl ⟨by rfl, ?_⟩) ?_ ?_
              rotate_left
              · intro w'
                go_simp
                with_reducible rfl
              rotate_left
              · simp only [Act.put, List.setIfInBounds_toArray, List.set_cons_zero, List.set_cons_succ, i64_w, i32_w]
                rfl
              refine done_ (done_of HT_.out (by kernel_rfl)) ?_
              try clear hHeld
              have hczk_0 := (blk_cell (g := gc) BC_.out 0).trans (show _ = some (.int .i64 x0) from rfl)
              have hczk_1 := (blk_cell (g := gc) BC_.out 1).trans (show _ = some (.int .i64 x1) from rfl)
              have hczk_2 := (blk_cell (g := gc) BC_.out 2).trans (show _ = some (.int .i64 x2) from rfl)
              have hczk_3 := (blk_cell (g := gc) BC_.out 3).trans (show _ = some (.int .i64 x3) from rfl)
              have hczk_4 := (blk_cell (g := gc) BC_.out 4).trans (show _ = some (.int .i64 0) from rfl)
              have hczk_5 := (blk_cell (g := gc) BC_.out 5).trans (show _ = some (.int .i64 x5) from rfl)
              have hfzk_0 := blk_frozen (g := gc) BC_.out 0
              have hfzk_1 := blk_frozen (g := gc) BC_.out 1
              have hfzk_2 := blk_frozen (g := gc) BC_.out 2
              have hfzk_3 := blk_frozen (g := gc) BC_.out 3
              have hfzk_4 := blk_frozen (g := gc) BC_.out 4
              have hfzk_5 := blk_frozen (g := gc) BC_.out 5
              go_wp2
              go_roundg (2 - 1)
              case measure => omega
              case rel => exact ⟨1, 1, ⟨Or.inr (Or.inl ⟨rfl, rfl⟩)⟩, by omega, AQ, ⟨by (with_reducible repeat (first | apply Kd.R_alloc | apply Kd.R_drewN | apply Kd.R_drew)); exact Kd.R_mono (Kd.R_far (p := ⟨gc, 4, none⟩) (Kd.R_types HO.out BC_.out (by decide)) (fun _ hk => hk.2) (.int .i64 1)) (fun _ hk => trivial)⟩, ⟨by (with_reducible repeat (first | refine blk_drewN ?_ _ | refine blk_drew ?_ | refine blk_alloc ?_ _)); refine blk_far ?_ NDga_gc.out _; exact BA_.out⟩, ⟨by (with_reducible repeat (first | refine blk_drewN ?_ _ | refine blk_drew ?_ | refine blk_alloc ?_ _)); refine blk_put (cs := #[.int .i64 x0, .int .i64 x1, .int .i64 x2, .int .i64 x3, .int .i64 0, .int .i64 x5]) ?_ 4 _ rfl; exact BC_.out⟩, ⟨by repeat (first | (with_reducible first | exact HB.out | apply below_alloc | apply pw_below_drewN | apply below_drew1 | refine below_set ?_ GA_.out | refine below_set ?_ GC_.out) | exact HB.out)⟩⟩
          · have hQ := AQ.out
            clear AQ
            rw [show (3 - 1 : Nat) = 1 + 1 from rfl, impl_ParseConfig.pol, if_pos (by decide)] at hQ
            obtain ⟨nm, hn_, hQ⟩ := Option.bind_eq_some_iff.mp hQ
            have AN := Aside0.mk hn_
            clear hn_
            by_cases c8 : nm.toList = (rdOf ByteArray.empty t 0).toList
            · rw [if_pos c8] at hQ
              have c8b0 : (nm.toList == (rdOf ByteArray.empty t 0).toList) = true := beq_iff_eq.mpr c8
              have c8b1 : (nm.toList != (rdOf ByteArray.empty t 0).toList) = false := bne_eq_false_iff_eq.mpr c8
              clear c8
              obtain rfl := Option.some.inj hQ
              clear hQ
              have p0 : 0 ≤ (0 : Int) := by omega
              have q0 : (0 : Int) < (t.length : Int) := by have := LN.out; omega
              obtain ⟨ad0, e0, hx0⟩ := Kd.at_string (Kd.R_reads' HO.out).2.2 0 p0 q0
              cases e0
              (try simp only [show (0 : Int).toNat = 0 from rfl, Nat.reduceMul, Nat.reduceEqDiff, Go.Addr.add, ↓reduceIte] at hx0)
              (try rw [Addr.add_zero'] at hx0)
              have qi0 : (0 < t.length) = True := eq_true (by have := LN.out; omega)
              replace p0 := eq_true p0
              replace q0 := eq_true q0
              have hc4 := (blk_cell (g := gc) BC_.out 4).trans (show _ = some (.int .i64 1) from rfl)
              go_wp2
              refine start_ (n := 12) (S := fun w' => w'.cell? ⟨gc, 4, none⟩ = some (.int .i64 1) ∧ w'.cell? ad0 = some (.string (rdOf ByteArray.empty t 0))) (ds := []) #[false, false, false, false, false, false, false, false, false, false, false, false] (by kernel_rfl) rfl rfl ⟨hc4, hx0⟩ (fun hHeld => ?_); refine with_tabW impl_ParseConfig.tab10 impl_ParseConfig.bits10 (fun HT_ HW_ => ?_)
              skip
              refine pure_ (i := 0) (N := some 40) (v := ?_) (a' := ?_) #[true, false, false, false, false, false, false, false, false, false, false, false] rfl rfl (any_of HT_.out (by kernel_rfl)) (fun _ _ _ h => h) (Or.inl ⟨by rfl, ?_⟩) ?_ ?_
              rotate_left
              · intro w'
                go_simp
                with_reducible rfl
              rotate_left
              · simp only [Act.put, List.setIfInBounds_toArray, List.set_cons_zero, List.set_cons_succ, i64_w, i32_w]
                rfl
              refine take_ (i := 1) (N := some 41) (v := ?_) (a' := ?_) #[true, true, false, false, false, false, false, false, false, false, false, false] rfl rfl (take_ofW HT_.out HW_.out (by kernel_rfl)) (fun _ _ _ h => h) (Or.inl ⟨by rfl, ?_⟩) hHeld ?_ ?_
              rotate_left
              · rintro w' ⟨s0, s1⟩
                go_simp
                with_reducible rfl
              rotate_left
              · simp only [Act.put, List.setIfInBounds_toArray, List.set_cons_zero, List.set_cons_succ, i64_w, i32_w]
                rfl
              refine pure_ (i := 2) (N := some 42) (v := ?_) (a' := ?_) #[true, true, true, false, false, false, false, false, false, false, false, false] rfl rfl (any_of HT_.out (by kernel_rfl)) (fun _ _ _ h => h) (Or.inl ⟨by rfl, ?_⟩) ?_ ?_
              rotate_left
              · intro w'
                go_simp
                with_reducible rfl
              rotate_left
              · simp only [Act.put, List.setIfInBounds_toArray, List.set_cons_zero, List.set_cons_succ, i64_w, i32_w]
                rfl
              refine pure_ (i := 3) (N := some 43) (v := ?_) (a' := ?_) #[true, true, true, true, false, false, false, false, false, false, false, false] rfl rfl (any_of HT_.out (by kernel_rfl)) (fun _ _ _ h => h) (Or.inl ⟨by rfl, ?_⟩) ?_ ?_
              rotate_left
              · intro w'
                go_simp
                with_reducible rfl
              rotate_left
              · simp only [Act.put, List.setIfInBounds_toArray, List.set_cons_zero, List.set_cons_succ, i64_w, i32_w]
                rfl
              refine pure_ (i := 4) (N := some 44) (v := ?_) (a' := ?_) #[true, true, true, true, true, false, false, false, false, false, false, false] rfl rfl (any_of HT_.out (by kernel_rfl)) (fun _ _ _ h => h) (Or.inl ⟨by rfl, ?_⟩) ?_ ?_
              rotate_left
              · intro w'
                go_simp
                with_reducible rfl
              rotate_left
              · simp only [Act.put, List.setIfInBounds_toArray, List.set_cons_zero, List.set_cons_succ, i64_w, i32_w]
                rfl
              refine take_ (i := 5) (N := some 45) (v := ?_) (a' := ?_) #[true, true, true, true, true, true, false, false, false, false, false, false] rfl rfl (take_ofW HT_.out HW_.out (by kernel_rfl)) (fun _ _ _ h => h) (Or.inl ⟨by rfl, ?_⟩) hHeld ?_ ?_
              rotate_left
              · rintro w' ⟨s0, s1⟩
                go_simp
                with_reducible rfl
              rotate_left
              · simp only [Act.put, List.setIfInBounds_toArray, List.set_cons_zero, List.set_cons_succ, i64_w, i32_w]
                rfl
              refine pure_ (i := 7) (N := some 47) (v := ?_) (a' := ?_) #[true, true, true, true, true, true, false, true, false, false, false, false] rfl rfl (any_of HT_.out (by kernel_rfl)) (fun _ _ _ h => h) (Or.inl ⟨by rfl, ?_⟩) ?_ ?_
              rotate_left
              · intro w'
                go_simp
                with_reducible rfl
              rotate_left
              · simp only [Act.put, List.setIfInBounds_toArray, List.set_cons_zero, List.set_cons_succ, i64_w, i32_w]
                rfl
              refine pure_ (i := 8) (N := some 48) (v := ?_) (a' := ?_) #[true, true, true, true, true, true, false, true, true, false, false, false] rfl rfl (any_of HT_.out (by kernel_rfl)) (fun _ _ _ h => h) (Or.inl ⟨by rfl, ?_⟩) ?_ ?_
              rotate_left
              · intro w'
                go_simp
                with_reducible rfl
              rotate_left
              · simp only [Act.put, List.setIfInBounds_toArray, List.set_cons_zero, List.set_cons_succ, i64_w, i32_w]
                rfl
              refine take_ (i := 9) (N := some 49) (v := ?_) (a' := ?_) #[true, true, true, true, true, true, false, true, true, true, false, false] rfl rfl (take_ofW HT_.out HW_.out (by kernel_rfl)) (fun _ _ _ h => h) (Or.inl ⟨by rfl, ?_⟩) hHeld ?_ ?_
              rotate_left
              · rintro w' ⟨s0, s1⟩
                go_simp
                with_reducible rfl
              rotate_left
              · simp only [Act.put, List.setIfInBounds_toArray, List.set_cons_zero, List.set_cons_succ, i64_w, i32_w]
                rfl
              refine one_ (i := 6) (N := some 46) #[true, true, true, true, true, true, true, true, true, true, false, false] rfl rfl (one_of HT_.out (by kernel_rfl)) (by decide) (fun K hK => ?_)
              refine goes_ Tryd.func94 (by kernel_rfl) rfl #[.int .i64 1] (by rfl) rfl rfl (by (try simp only [List.map_toArray, List.map_cons, List.map_nil]); first | done | rfl) ?_
              with_reducible refine (impl_PolicyName.calls 1 nm _ AN.out).mono ?_
              rintro e w_ ⟨rfl, hb⟩
              have HS0_ := (hb.cell (World.block_lt_of_cell? _ _ (hHeld.1))).trans (hHeld.1)
              have HS1_ := (hb.cell (World.block_lt_of_cell? _ _ (hHeld.2))).trans (hHeld.2)
              refine ⟨_, rfl, ?_⟩
              have n0_ := Aside0.mk (Kd.R_below (by (with_reducible repeat (first | apply Kd.R_alloc | apply Kd.R_drewN | apply Kd.R_drew)); exact HO.out) hb)
              have m0_ := Aside0.mk (blk_below (g := ga) (o := .cells #[.int .i64 0, .int .i64 0, .int .i64 0, .int .i64 0, .int .i64 0, .int .i64 0] 47 (0, 0)) (by (with_reducible repeat (first | refine blk_drewN ?_ _ | refine blk_drew ?_ | refine blk_alloc ?_ _)); exact BA_.out) hb)
              have m1_ := Aside0.mk (blk_below (g := gc) (o := .cells #[.int .i64 x0, .int .i64 x1, .int .i64 x2, .int .i64 x3, .int .i64 1, .int .i64 x5] 47 (0, 0)) (by (with_reducible repeat (first | refine blk_drewN ?_ _ | refine blk_drew ?_ | refine blk_alloc ?_ _)); exact BC_.out) hb)
              have l0_ := Aside0.mk (below_step (by repeat (first | (with_reducible first | exact HB.out | apply below_alloc | apply pw_below_drewN | apply below_drew1 | refine below_set ?_ GA_.out | refine below_set ?_ GC_.out) | exact HB.out)) hb)
              clear HO
              clear BA_
              clear BC_
              clear HB
              have HO := n0_
              have BA_ := m0_
              have BC_ := m1_
              have HB := l0_
              clear  n0_ m0_ m1_ l0_
              clear hb
              refine hK.out _ _ ⟨HS0_, HS1_⟩ (fun hHeld => ?_)
              clear hK K HS0_ HS1_ hc4 hx0
              refine norm_ (a' := ?_) ?_ ?_
              rotate_left
              · show Act.put _ (some 46) _ = _
                simp only [Act.put, List.setIfInBounds_toArray, List.set_cons_zero, List.set_cons_succ, i64_w, i32_w]
                rfl
              refine pure_ (i := 10) (N := some 50) (v := ?_) (a' := ?_) #[true, true, true, true, true, true, true, true, true, true, true, false] rfl rfl (any_of HT_.out (by kernel_rfl)) (fun _ _ _ h => h) (Or.inl ⟨by rfl, ?_⟩) ?_ ?_
              rotate_left
              · intro w'
                go_simp
                with_reducible rfl
              rotate_left
              · simp only [Act.put, List.setIfInBounds_toArray, List.set_cons_zero, List.set_cons_succ, i64_w, i32_w]
                rfl
              refine pure_ (i := 11) (N := some 51) (v := ?_) (a' := ?_) #[true, true, true, true, true, true, true, true, true, true, true, true] rfl rfl (any_of HT_.out (by kernel_rfl)) (fun _ _ _ h => h) (Or.inl ⟨by rfl, ?_⟩) ?_ ?_
              rotate_left
              · intro w'
                go_simp
                with_reducible rfl
              rotate_left
              · simp only [Act.put, List.setIfInBounds_toArray, List.set_cons_zero, List.set_cons_succ, i64_w, i32_w]
                rfl
              refine done_ (done_of HT_.out (by kernel_rfl)) ?_
              try clear hHeld
              have hczk_0 := (blk_cell (g := gc) BC_.out 0).trans (show _ = some (.int .i64 x0) from rfl)
              have hczk_1 := (blk_cell (g := gc) BC_.out 1).trans (show _ = some (.int .i64 x1) from rfl)
              have hczk_2 := (blk_cell (g := gc) BC_.out 2).trans (show _ = some (.int .i64 x2) from rfl)
              have hczk_3 := (blk_cell (g := gc) BC_.out 3).trans (show _ = some (.int .i64 x3) from rfl)
              have hczk_4 := (blk_cell (g := gc) BC_.out 4).trans (show _ = some (.int .i64 1) from rfl)
              have hczk_5 := (blk_cell (g := gc) BC_.out 5).trans (show _ = some (.int .i64 x5) from rfl)
              have hfzk_0 := blk_frozen (g := gc) BC_.out 0
              have hfzk_1 := blk_frozen (g := gc) BC_.out 1
              have hfzk_2 := blk_frozen (g := gc) BC_.out 2
              have hfzk_3 := blk_frozen (g := gc) BC_.out 3
              have hfzk_4 := blk_frozen (g := gc) BC_.out 4
              have hfzk_5 := blk_frozen (g := gc) BC_.out 5
              by_cases c9 : u.toList = a0.toList
              · have H := HH.out
                rw [if_pos c9] at H
                have c9b0 : (u.toList == a0.toList) = true := beq_iff_eq.mpr c9
                have c9b1 : (u.toList != a0.toList) = false := bne_eq_false_iff_eq.mpr c9
                clear c9 HH
                simp only [Option.some.injEq, Prod.mk.injEq] at H
                obtain ⟨rfl, rfl, rfl, rfl, rfl, rfl, rfl⟩ := H
                go_wp2_with (first | (go_at_call 56; (with_reducible refine (impl_FormatConfig.calls (hF := Fit.below HF.out (by repeat (first | (with_reducible first | exact HB.out | apply below_alloc | apply pw_below_drewN | apply below_drew1 | refine below_set ?_ GA_.out | refine below_set ?_ GC_.out) | exact HB.out))) x0 x1 x2 x3 1 x5 u _ AU.out).mono ?_); rintro e w_ ⟨rfl, hb⟩; have m0_ := Aside0.mk (blk_below (g := ga) (o := .cells #[.int .i64 0, .int .i64 0, .int .i64 0, .int .i64 0, .int .i64 0, .int .i64 0] 47 (0, 0)) (by (with_reducible repeat (first | refine blk_drewN ?_ _ | refine blk_drew ?_ | refine blk_alloc ?_ _)); exact BA_.out) hb); have m1_ := Aside0.mk (blk_below (g := gc) (o := .cells #[.int .i64 x0, .int .i64 x1, .int .i64 x2, .int .i64 x3, .int .i64 1, .int .i64 x5] 47 (0, 0)) (by (with_reducible repeat (first | refine blk_drewN ?_ _ | refine blk_drew ?_ | refine blk_alloc ?_ _)); exact BC_.out) hb); have l0_ := Aside0.mk (below_step (by repeat (first | (with_reducible first | exact HB.out | apply below_alloc | apply pw_below_drewN | apply below_drew1 | refine below_set ?_ GA_.out | refine below_set ?_ GC_.out) | exact HB.out)) hb); clear BA_; clear BC_; clear HB; have BA_ := m0_; have BC_ := m1_; have HB := l0_; clear  m0_ m1_ l0_; clear hb; have hcze_0 := (blk_cell (g := gc) BC_.out 0).trans (show _ = some (.int .i64 x0) from rfl); have hcze_1 := (blk_cell (g := gc) BC_.out 1).trans (show _ = some (.int .i64 x1) from rfl); have hcze_2 := (blk_cell (g := gc) BC_.out 2).trans (show _ = some (.int .i64 x2) from rfl); have hcze_3 := (blk_cell (g := gc) BC_.out 3).trans (show _ = some (.int .i64 x3) from rfl); have hcze_4 := (blk_cell (g := gc) BC_.out 4).trans (show _ = some (.int .i64 1) from rfl); have hcze_5 := (blk_cell (g := gc) BC_.out 5).trans (show _ = some (.int .i64 x5) from rfl); have hfze_0 := blk_frozen (g := gc) BC_.out 0; have hfze_1 := blk_frozen (g := gc) BC_.out 1; have hfze_2 := blk_frozen (g := gc) BC_.out 2; have hfze_3 := blk_frozen (g := gc) BC_.out 3; have hfze_4 := blk_frozen (g := gc) BC_.out 4; have hfze_5 := blk_frozen (g := gc) BC_.out 5; have hczf_0 := (blk_cell (g := ga) BA_.out 0).trans (show _ = some (.int .i64 0) from rfl); have hczf_1 := (blk_cell (g := ga) BA_.out 1).trans (show _ = some (.int .i64 0) from rfl); have hczf_2 := (blk_cell (g := ga) BA_.out 2).trans (show _ = some (.int .i64 0) from rfl); have hczf_3 := (blk_cell (g := ga) BA_.out 3).trans (show _ = some (.int .i64 0) from rfl); have hczf_4 := (blk_cell (g := ga) BA_.out 4).trans (show _ = some (.int .i64 0) from rfl); have hczf_5 := (blk_cell (g := ga) BA_.out 5).trans (show _ = some (.int .i64 0) from rfl); have hfzf_0 := blk_frozen (g := ga) BA_.out 0; have hfzf_1 := blk_frozen (g := ga) BA_.out 1; have hfzf_2 := blk_frozen (g := ga) BA_.out 2; have hfzf_3 := blk_frozen (g := ga) BA_.out 3; have hfzf_4 := blk_frozen (g := ga) BA_.out 4; have hfzf_5 := blk_frozen (g := ga) BA_.out 5))
                refine bodyPost_ret (results_ct rfl _ _ ga 47 #[.int .i64 x0, .int .i64 x1, .int .i64 x2, .int .i64 x3, .int .i64 1, .int .i64 x5] (0, 0) _ rfl (by (with_reducible repeat (first | refine blk_drewN ?_ _ | refine blk_drew ?_ | refine blk_alloc ?_ _)); refine blk_put (cs := #[.int .i64 x0, .int .i64 x1, .int .i64 x2, .int .i64 x3, .int .i64 1, .int .i64 0]) ?_ 5 _ rfl; (with_reducible repeat (first | refine blk_drewN ?_ _ | refine blk_drew ?_ | refine blk_alloc ?_ _)); refine blk_put (cs := #[.int .i64 x0, .int .i64 x1, .int .i64 x2, .int .i64 x3, .int .i64 0, .int .i64 0]) ?_ 4 _ rfl; (with_reducible repeat (first | refine blk_drewN ?_ _ | refine blk_drew ?_ | refine blk_alloc ?_ _)); refine blk_put (cs := #[.int .i64 x0, .int .i64 x1, .int .i64 x2, .int .i64 0, .int .i64 0, .int .i64 0]) ?_ 3 _ rfl; (with_reducible repeat (first | refine blk_drewN ?_ _ | refine blk_drew ?_ | refine blk_alloc ?_ _)); refine blk_put (cs := #[.int .i64 x0, .int .i64 x1, .int .i64 0, .int .i64 0, .int .i64 0, .int .i64 0]) ?_ 2 _ rfl; (with_reducible repeat (first | refine blk_drewN ?_ _ | refine blk_drew ?_ | refine blk_alloc ?_ _)); refine blk_put (cs := #[.int .i64 x0, .int .i64 0, .int .i64 0, .int .i64 0, .int .i64 0, .int .i64 0]) ?_ 1 _ rfl; (with_reducible repeat (first | refine blk_drewN ?_ _ | refine blk_drew ?_ | refine blk_alloc ?_ _)); refine blk_put (cs := #[.int .i64 0, .int .i64 0, .int .i64 0, .int .i64 0, .int .i64 0, .int .i64 0]) ?_ 0 _ rfl; (with_reducible repeat (first | refine blk_drewN ?_ _ | refine blk_drew ?_ | refine blk_alloc ?_ _)); exact BA_.out) Tryd.underlying47 rfl (by kernel_rfl)) rfl ?_
                exact ⟨by first | rfl | (simp <;> rfl) | (simp [*] <;> rfl), by repeat (first | (with_reducible first | exact HB.out | apply below_alloc | apply pw_below_drewN | apply below_drew1 | refine below_set ?_ GA_.out | refine below_set ?_ GC_.out) | exact HB.out)⟩
              · have H := HH.out
                rw [if_neg c9] at H
                have c9b0 : (u.toList == a0.toList) = false := beq_eq_false_iff_ne.mpr c9
                have c9b1 : (u.toList != a0.toList) = true := bne_iff_ne.mpr c9
                clear c9 HH
                simp only [Option.some.injEq, Prod.mk.injEq] at H
                obtain ⟨rfl, rfl, rfl, rfl, rfl, rfl, rfl⟩ := H
                go_wp2_with (first | (go_at_call 56; (with_reducible refine (impl_FormatConfig.calls (hF := Fit.below HF.out (by repeat (first | (with_reducible first | exact HB.out | apply below_alloc | apply pw_below_drewN | apply below_drew1 | refine below_set ?_ GA_.out | refine below_set ?_ GC_.out) | exact HB.out))) x0 x1 x2 x3 1 x5 u _ AU.out).mono ?_); rintro e w_ ⟨rfl, hb⟩; have m0_ := Aside0.mk (blk_below (g := ga) (o := .cells #[.int .i64 0, .int .i64 0, .int .i64 0, .int .i64 0, .int .i64 0, .int .i64 0] 47 (0, 0)) (by (with_reducible repeat (first | refine blk_drewN ?_ _ | refine blk_drew ?_ | refine blk_alloc ?_ _)); exact BA_.out) hb); have m1_ := Aside0.mk (blk_below (g := gc) (o := .cells #[.int .i64 x0, .int .i64 x1, .int .i64 x2, .int .i64 x3, .int .i64 1, .int .i64 x5] 47 (0, 0)) (by (with_reducible repeat (first | refine blk_drewN ?_ _ | refine blk_drew ?_ | refine blk_alloc ?_ _)); exact BC_.out) hb); have l0_ := Aside0.mk (below_step (by repeat (first | (with_reducible first | exact HB.out | apply below_alloc | apply pw_below_drewN | apply below_drew1 | refine below_set ?_ GA_.out | refine below_set ?_ GC_.out) | exact HB.out)) hb); clear BA_; clear BC_; clear HB; have BA_ := m0_; have BC_ := m1_; have HB := l0_; clear  m0_ m1_ l0_; clear hb; have hcze_0 := (blk_cell (g := gc) BC_.out 0).trans (show _ = some (.int .i64 x0) from rfl); have hcze_1 := (blk_cell (g := gc) BC_.out 1).trans (show _ = some (.int .i64 x1) from rfl); have hcze_2 := (blk_cell (g := gc) BC_.out 2).trans (show _ = some (.int .i64 x2) from rfl); have hcze_3 := (blk_cell (g := gc) BC_.out 3).trans (show _ = some (.int .i64 x3) from rfl); have hcze_4 := (blk_cell (g := gc) BC_.out 4).trans (show _ = some (.int .i64 1) from rfl); have hcze_5 := (blk_cell (g := gc) BC_.out 5).trans (show _ = some (.int .i64 x5) from rfl); have hfze_0 := blk_frozen (g := gc) BC_.out 0; have hfze_1 := blk_frozen (g := gc) BC_.out 1; have hfze_2 := blk_frozen (g := gc) BC_.out 2; have hfze_3 := blk_frozen (g := gc) BC_.out 3; have hfze_4 := blk_frozen (g := gc) BC_.out 4; have hfze_5 := blk_frozen (g := gc) BC_.out 5; have hczf_0 := (blk_cell (g := ga) BA_.out 0).trans (show _ = some (.int .i64 0) from rfl); have hczf_1 := (blk_cell (g := ga) BA_.out 1).trans (show _ = some (.int .i64 0) from rfl); have hczf_2 := (blk_cell (g := ga) BA_.out 2).trans (show _ = some (.int .i64 0) from rfl); have hczf_3 := (blk_cell (g := ga) BA_.out 3).trans (show _ = some (.int .i64 0) from rfl); have hczf_4 := (blk_cell (g := ga) BA_.out 4).trans (show _ = some (.int .i64 0) from rfl); have hczf_5 := (blk_cell (g := ga) BA_.out 5).trans (show _ = some (.int .i64 0) from rfl); have hfzf_0 := blk_frozen (g := ga) BA_.out 0; have hfzf_1 := blk_frozen (g := ga) BA_.out 1; have hfzf_2 := blk_frozen (g := ga) BA_.out 2; have hfzf_3 := blk_frozen (g := ga) BA_.out 3; have hfzf_4 := blk_frozen (g := ga) BA_.out 4; have hfzf_5 := blk_frozen (g := ga) BA_.out 5))
                refine bodyPost_ret (results_ct rfl _ _ ga 47 #[.int .i64 0, .int .i64 0, .int .i64 0, .int .i64 0, .int .i64 0, .int .i64 0] (0, 0) _ rfl (by (with_reducible repeat (first | refine blk_drewN ?_ _ | refine blk_drew ?_ | refine blk_alloc ?_ _)); refine blk_put (cs := #[.int .i64 0, .int .i64 0, .int .i64 0, .int .i64 0, .int .i64 0, .int .i64 0]) ?_ 5 _ rfl; (with_reducible repeat (first | refine blk_drewN ?_ _ | refine blk_drew ?_ | refine blk_alloc ?_ _)); refine blk_put (cs := #[.int .i64 0, .int .i64 0, .int .i64 0, .int .i64 0, .int .i64 0, .int .i64 0]) ?_ 4 _ rfl; (with_reducible repeat (first | refine blk_drewN ?_ _ | refine blk_drew ?_ | refine blk_alloc ?_ _)); refine blk_put (cs := #[.int .i64 0, .int .i64 0, .int .i64 0, .int .i64 0, .int .i64 0, .int .i64 0]) ?_ 3 _ rfl; (with_reducible repeat (first | refine blk_drewN ?_ _ | refine blk_drew ?_ | refine blk_alloc ?_ _)); refine blk_put (cs := #[.int .i64 0, .int .i64 0, .int .i64 0, .int .i64 0, .int .i64 0, .int .i64 0]) ?_ 2 _ rfl; (with_reducible repeat (first | refine blk_drewN ?_ _ | refine blk_drew ?_ | refine blk_alloc ?_ _)); refine blk_put (cs := #[.int .i64 0, .int .i64 0, .int .i64 0, .int .i64 0, .int .i64 0, .int .i64 0]) ?_ 1 _ rfl; (with_reducible repeat (first | refine blk_drewN ?_ _ | refine blk_drew ?_ | refine blk_alloc ?_ _)); refine blk_put (cs := #[.int .i64 0, .int .i64 0, .int .i64 0, .int .i64 0, .int .i64 0, .int .i64 0]) ?_ 0 _ rfl; (with_reducible repeat (first | refine blk_drewN ?_ _ | refine blk_drew ?_ | refine blk_alloc ?_ _)); exact BA_.out) Tryd.underlying47 rfl (by kernel_rfl)) rfl ?_
                exact ⟨by first | rfl | (simp <;> rfl) | (simp [*] <;> rfl), by repeat (first | (with_reducible first | exact HB.out | apply below_alloc | apply pw_below_drewN | apply below_drew1 | refine below_set ?_ GA_.out | refine below_set ?_ GC_.out) | exact HB.out)⟩
            · rw [if_neg c8] at hQ
              have c8b0 : (nm.toList == (rdOf ByteArray.empty t 0).toList) = false := beq_eq_false_iff_ne.mpr c8
              have c8b1 : (nm.toList != (rdOf ByteArray.empty t 0).toList) = true := bne_iff_ne.mpr c8
              clear c8
              have AQ := Aside0.mk hQ
              clear hQ
              have p0 : 0 ≤ (0 : Int) := by omega
              have q0 : (0 : Int) < (t.length : Int) := by have := LN.out; omega
              obtain ⟨ad0, e0, hx0⟩ := Kd.at_string (Kd.R_reads' HO.out).2.2 0 p0 q0
              cases e0
              (try simp only [show (0 : Int).toNat = 0 from rfl, Nat.reduceMul, Nat.reduceEqDiff, Go.Addr.add, ↓reduceIte] at hx0)
              (try rw [Addr.add_zero'] at hx0)
              have qi0 : (0 < t.length) = True := eq_true (by have := LN.out; omega)
              replace p0 := eq_true p0
              replace q0 := eq_true q0
              have hc4 := (blk_cell (g := gc) BC_.out 4).trans (show _ = some (.int .i64 1) from rfl)
              go_wp2
              refine start_ (n := 12) (S := fun w' => w'.cell? ⟨gc, 4, none⟩ = some (.int .i64 1) ∧ w'.cell? ad0 = some (.string (rdOf ByteArray.empty t 0))) (ds := []) #[false, false, false, false, false, false, false, false, false, false, false, false] (by kernel_rfl) rfl rfl ⟨hc4, hx0⟩ (fun hHeld => ?_); refine with_tabW impl_ParseConfig.tab10 impl_ParseConfig.bits10 (fun HT_ HW_ => ?_)
              skip
              refine pure_ (i := 0) (N := some 40) (v := ?_) (a' := ?_) #[true, false, false, false, false, false, false, false, false, false, false, false] rfl rfl (any_of HT_.out (by kernel_rfl)) (fun _ _ _ h => h) (Or.inl ⟨by rfl, ?_⟩) ?_ ?_
              rotate_left
              · intro w'
                go_simp
                with_reducible rfl
              rotate_left
              · simp only [Act.put, List.setIfInBounds_toArray, List.set_cons_zero, List.set_cons_succ, i64_w, i32_w]
                rfl
              refine take_ (i := 1) (N := some 41) (v := ?_) (a' := ?_) #[true, true, false, false, false, false, false, false, false, false, false, false] rfl rfl (take_ofW HT_.out HW_.out (by kernel_rfl)) (fun _ _ _ h => h) (Or.inl ⟨by rfl, ?_⟩) hHeld ?_ ?_
              rotate_left
              · rintro w' ⟨s0, s1⟩
                go_simp
                with_reducible rfl
              rotate_left
              · simp only [Act.put, List.setIfInBounds_toArray, List.set_cons_zero, List.set_cons_succ, i64_w, i32_w]
                rfl
              refine pure_ (i := 2) (N := some 42) (v := ?_) (a' := ?_) #[true, true, true, false, false, false, false, false, false, false, false, false] rfl rfl (any_of HT_.out (by kernel_rfl)) (fun _ _ _ h => h) (Or.inl ⟨by rfl, ?_⟩) ?_ ?_
              rotate_left
              · intro w'
                go_simp
                with_reducible rfl
              rotate_left
              · simp only [Act.put, List.setIfInBounds_toArray, List.set_cons_zero, List.set_cons_succ, i64_w, i32_w]
                rfl
              refine pure_ (i := 3) (N := some 43) (v := ?_) (a' := ?_) #[true, true, true, true, false, false, false, false, false, false, false, false] rfl rfl (any_of HT_.out (by kernel_rfl)) (fun _ _ _ h => h) (Or.inl ⟨by rfl, ?_⟩) ?_ ?_
              rotate_left
              · intro w'
                go_simp
                with_reducible rfl
              rotate_left
              · simp only [Act.put, List.setIfInBounds_toArray, List.set_cons_zero, List.set_cons_succ, i64_w, i32_w]
                rfl
              refine pure_ (i := 4) (N := some 44) (v := ?_) (a' := ?_) #[true, true, true, true, true, false, false, false, false, false, false, false] rfl rfl (any_of HT_.out (by kernel_rfl)) (fun _ _ _ h => h) (Or.inl ⟨by rfl, ?_⟩) ?_ ?_
              rotate_left
              · intro w'
                go_simp
                with_reducible rfl
              rotate_left
              · simp only [Act.put, List.setIfInBounds_toArray, List.set_cons_zero, List.set_cons_succ, i64_w, i32_w]
                rfl
              refine take_ (i := 5) (N := some 45) (v := ?_) (a' := ?_) #[true, true, true, true, true, true, false, false, false, false, false, false] rfl rfl (take_ofW HT_.out HW_.out (by kernel_rfl)) (fun _ _ _ h => h) (Or.inl ⟨by rfl, ?_⟩) hHeld ?_ ?_
              rotate_left
              · rintro w' ⟨s0, s1⟩
                go_simp
                with_reducible rfl
              rotate_left
              · simp only [Act.put, List.setIfInBounds_toArray, List.set_cons_zero, List.set_cons_succ, i64_w, i32_w]
                rfl
              refine pure_ (i := 7) (N := some 47) (v := ?_) (a' := ?_) #[true, true, true, true, true, true, false, true, false, false, false, false] rfl rfl (any_of HT_.out (by kernel_rfl)) (fun _ _ _ h => h) (Or.inl ⟨by rfl, ?_⟩) ?_ ?_
              rotate_left
              · intro w'
                go_simp
                with_reducible rfl
              rotate_left
              · simp only [Act.put, List.setIfInBounds_toArray, List.set_cons_zero, List.set_cons_succ, i64_w, i32_w]
                rfl
              refine pure_ (i := 8) (N := some 48) (v := ?_) (a' := ?_) #[true, true, true, true, true, true, false, true, true, false, false, false] rfl rfl (any_of HT_.out (by kernel_rfl)) (fun _ _ _ h => h) (Or.inl ⟨by rfl, ?_⟩) ?_ ?_
              rotate_left
              · intro w'
                go_simp
                with_reducible rfl
              rotate_left
              · simp only [Act.put, List.setIfInBounds_toArray, List.set_cons_zero, List.set_cons_succ, i64_w, i32_w]
                rfl
              refine take_ (i := 9) (N := some 49) (v := ?_) (a' := ?_) #[true, true, true, true, true, true, false, true, true, true, false, false] rfl rfl (take_ofW HT_.out HW_.out (by kernel_rfl)) (fun _ _ _ h => h) (Or.inl ⟨by rfl, ?_⟩) hHeld ?_ ?_
              rotate_left
              · rintro w' ⟨s0, s1⟩
                go_simp
                with_reducible rfl
              rotate_left
              · simp only [Act.put, List.setIfInBounds_toArray, List.set_cons_zero, List.set_cons_succ, i64_w, i32_w]
                rfl
              refine one_ (i := 6) (N := some 46) #[true, true, true, true, true, true, true, true, true, true, false, false] rfl rfl (one_of HT_.out (by kernel_rfl)) (by decide) (fun K hK => ?_)
              refine goes_ Tryd.func94 (by kernel_rfl) rfl #[.int .i64 1] (by rfl) rfl rfl (by (try simp only [List.map_toArray, List.map_cons, List.map_nil]); first | done | rfl) ?_
              with_reducible refine (impl_PolicyName.calls 1 nm _ AN.out).mono ?_
              rintro e w_ ⟨rfl, hb⟩
              have HS0_ := (hb.cell (World.block_lt_of_cell? _ _ (hHeld.1))).trans (hHeld.1)
              have HS1_ := (hb.cell (World.block_lt_of_cell? _ _ (hHeld.2))).trans (hHeld.2)
              refine ⟨_, rfl, ?_⟩
              have n0_ := Aside0.mk (Kd.R_below (by (with_reducible repeat (first | apply Kd.R_alloc | apply Kd.R_drewN | apply Kd.R_drew)); exact HO.out) hb)
              have m0_ := Aside0.mk (blk_below (g := ga) (o := .cells #[.int .i64 0, .int .i64 0, .int .i64 0, .int .i64 0, .int .i64 0, .int .i64 0] 47 (0, 0)) (by (with_reducible repeat (first | refine blk_drewN ?_ _ | refine blk_drew ?_ | refine blk_alloc ?_ _)); exact BA_.out) hb)
              have m1_ := Aside0.mk (blk_below (g := gc) (o := .cells #[.int .i64 x0, .int .i64 x1, .int .i64 x2, .int .i64 x3, .int .i64 1, .int .i64 x5] 47 (0, 0)) (by (with_reducible repeat (first | refine blk_drewN ?_ _ | refine blk_drew ?_ | refine blk_alloc ?_ _)); exact BC_.out) hb)
              have l0_ := Aside0.mk (below_step (by repeat (first | (with_reducible first | exact HB.out | apply below_alloc | apply pw_below_drewN | apply below_drew1 | refine below_set ?_ GA_.out | refine below_set ?_ GC_.out) | exact HB.out)) hb)
              clear HO
              clear BA_
              clear BC_
              clear HB
              have HO := n0_
              have BA_ := m0_
              have BC_ := m1_
              have HB := l0_
              clear  n0_ m0_ m1_ l0_
              clear hb
              refine hK.out _ _ ⟨HS0_, HS1_⟩ (fun hHeld => ?_)
              clear hK K HS0_ HS1_ hc4 hx0
              refine norm_ (a' := ?_) ?_ ?_
              rotate_left
              · show Act.put _ (some 46) _ = _
                simp only [Act.put, List.setIfInBounds_toArray, List.set_cons_zero, List.set_cons_succ, i64_w, i32_w]
                rfl
              refine pure_ (i := 10) (N := some 50) (v := ?_) (a' := ?_) #[true, true, true, true, true, true, true, true, true, true, true, false] rfl rfl (any_of HT_.out (by kernel_rfl)) (fun _ _ _ h => h) (Or.inl ⟨by rfl, ?_⟩) ?_ ?_
              rotate_left
              · intro w'
                go_simp
                with_reducible rfl
              rotate_left
              · simp only [Act.put, List.setIfInBounds_toArray, List.set_cons_zero, List.set_cons_succ, i64_w, i32_w]
                rfl
              refine pure_ (i := 11) (N := some 51) (v := ?_) (a' := ?_) #[true, true, true, true, true, true, true, true, true, true, true, true] rfl rfl (any_of HT_.out (by kernel_rfl)) (fun _ _ _ h => h) (Or.inl ⟨by rfl, ?_⟩) ?_ ?_
              rotate_left
              · intro w'
                go_simp
                with_reducible rfl
              rotate_left
              · simp only [Act.put, List.setIfInBounds_toArray, List.set_cons_zero, List.set_cons_succ, i64_w, i32_w]
                rfl
              refine done_ (done_of HT_.out (by kernel_rfl)) ?_
              try clear hHeld
              have hczk_0 := (blk_cell (g := gc) BC_.out 0).trans (show _ = some (.int .i64 x0) from rfl)
              have hczk_1 := (blk_cell (g := gc) BC_.out 1).trans (show _ = some (.int .i64 x1) from rfl)
              have hczk_2 := (blk_cell (g := gc) BC_.out 2).trans (show _ = some (.int .i64 x2) from rfl)
              have hczk_3 := (blk_cell (g := gc) BC_.out 3).trans (show _ = some (.int .i64 x3) from rfl)
              have hczk_4 := (blk_cell (g := gc) BC_.out 4).trans (show _ = some (.int .i64 1) from rfl)
              have hczk_5 := (blk_cell (g := gc) BC_.out 5).trans (show _ = some (.int .i64 x5) from rfl)
              have hfzk_0 := blk_frozen (g := gc) BC_.out 0
              have hfzk_1 := blk_frozen (g := gc) BC_.out 1
              have hfzk_2 := blk_frozen (g := gc) BC_.out 2
              have hfzk_3 := blk_frozen (g := gc) BC_.out 3
              have hfzk_4 := blk_frozen (g := gc) BC_.out 4
              have hfzk_5 := blk_frozen (g := gc) BC_.out 5
              go_wp2
              go_roundg (2 - 2)
              case measure => omega
              case rel => exact ⟨2, 2, ⟨Or.inr (Or.inr ⟨rfl, rfl⟩)⟩, by omega, AQ, ⟨by (with_reducible repeat (first | apply Kd.R_alloc | apply Kd.R_drewN | apply Kd.R_drew)); exact Kd.R_mono (Kd.R_far (p := ⟨gc, 4, none⟩) (Kd.R_types HO.out BC_.out (by decide)) (fun _ hk => hk.2) (.int .i64 2)) (fun _ hk => trivial)⟩, ⟨by (with_reducible repeat (first | refine blk_drewN ?_ _ | refine blk_drew ?_ | refine blk_alloc ?_ _)); refine blk_far ?_ NDga_gc.out _; exact BA_.out⟩, ⟨by (with_reducible repeat (first | refine blk_drewN ?_ _ | refine blk_drew ?_ | refine blk_alloc ?_ _)); refine blk_put (cs := #[.int .i64 x0, .int .i64 x1, .int .i64 x2, .int .i64 x3, .int .i64 1, .int .i64 x5]) ?_ 4 _ rfl; exact BC_.out⟩, ⟨by repeat (first | (with_reducible first | exact HB.out | apply below_alloc | apply pw_below_drewN | apply below_drew1 | refine below_set ?_ GA_.out | refine below_set ?_ GC_.out) | exact HB.out)⟩⟩
          · have hQ := AQ.out
            clear AQ
            rw [show (3 - 2 : Nat) = 0 + 1 from rfl, impl_ParseConfig.pol, if_neg (by decide)] at hQ
            obtain rfl := Option.some.inj hQ
            clear hQ
            have hczk_0 := (blk_cell (g := gc) BC_.out 0).trans (show _ = some (.int .i64 x0) from rfl)
            have hczk_1 := (blk_cell (g := gc) BC_.out 1).trans (show _ = some (.int .i64 x1) from rfl)
            have hczk_2 := (blk_cell (g := gc) BC_.out 2).trans (show _ = some (.int .i64 x2) from rfl)
            have hczk_3 := (blk_cell (g := gc) BC_.out 3).trans (show _ = some (.int .i64 x3) from rfl)
            have hczk_4 := (blk_cell (g := gc) BC_.out 4).trans (show _ = some (.int .i64 2) from rfl)
            have hczk_5 := (blk_cell (g := gc) BC_.out 5).trans (show _ = some (.int .i64 x5) from rfl)
            have hfzk_0 := blk_frozen (g := gc) BC_.out 0
            have hfzk_1 := blk_frozen (g := gc) BC_.out 1
            have hfzk_2 := blk_frozen (g := gc) BC_.out 2
            have hfzk_3 := blk_frozen (g := gc) BC_.out 3
            have hfzk_4 := blk_frozen (g := gc) BC_.out 4
            have hfzk_5 := blk_frozen (g := gc) BC_.out 5
            by_cases c9 : u.toList = a0.toList
            · have H := HH.out
              rw [if_pos c9] at H
              have c9b0 : (u.toList == a0.toList) = true := beq_iff_eq.mpr c9
              have c9b1 : (u.toList != a0.toList) = false := bne_eq_false_iff_eq.mpr c9
              clear c9 HH
              simp only [Option.some.injEq, Prod.mk.injEq] at H
              obtain ⟨rfl, rfl, rfl, rfl, rfl, rfl, rfl⟩ := H
              go_wp2_with (first | (go_at_call 56; (with_reducible refine (impl_FormatConfig.calls (hF := Fit.below HF.out (by repeat (first | (with_reducible first | exact HB.out | apply below_alloc | apply pw_below_drewN | apply below_drew1 | refine below_set ?_ GA_.out | refine below_set ?_ GC_.out) | exact HB.out))) x0 x1 x2 x3 2 x5 u _ AU.out).mono ?_); rintro e w_ ⟨rfl, hb⟩; have m0_ := Aside0.mk (blk_below (g := ga) (o := .cells #[.int .i64 0, .int .i64 0, .int .i64 0, .int .i64 0, .int .i64 0, .int .i64 0] 47 (0, 0)) (by (with_reducible repeat (first | refine blk_drewN ?_ _ | refine blk_drew ?_ | refine blk_alloc ?_ _)); exact BA_.out) hb); have m1_ := Aside0.mk (blk_below (g := gc) (o := .cells #[.int .i64 x0, .int .i64 x1, .int .i64 x2, .int .i64 x3, .int .i64 2, .int .i64 x5] 47 (0, 0)) (by (with_reducible repeat (first | refine blk_drewN ?_ _ | refine blk_drew ?_ | refine blk_alloc ?_ _)); exact BC_.out) hb); have l0_ := Aside0.mk (below_step (by repeat (first | (with_reducible first | exact HB.out | apply below_alloc | apply pw_below_drewN | apply below_drew1 | refine below_set ?_ GA_.out | refine below_set ?_ GC_.out) | exact HB.out)) hb); clear BA_; clear BC_; clear HB; have BA_ := m0_; have BC_ := m1_; have HB := l0_; clear  m0_ m1_ l0_; clear hb; have hcze_0 := (blk_cell (g := gc) BC_.out 0).trans (show _ = some (.int .i64 x0) from rfl); have hcze_1 := (blk_cell (g := gc) BC_.out 1).trans (show _ = some (.int .i64 x1) from rfl); have hcze_2 := (blk_cell (g := gc) BC_.out 2).trans (show _ = some (.int .i64 x2) from rfl); have hcze_3 := (blk_cell (g := gc) BC_.out 3).trans (show _ = some (.int .i64 x3) from rfl); have hcze_4 := (blk_cell (g := gc) BC_.out 4).trans (show _ = some (.int .i64 2) from rfl); have hcze_5 := (blk_cell (g := gc) BC_.out 5).trans (show _ = some (.int .i64 x5) from rfl); have hfze_0 := blk_frozen (g := gc) BC_.out 0; have hfze_1 := blk_frozen (g := gc) BC_.out 1; have hfze_2 := blk_frozen (g := gc) BC_.out 2; have hfze_3 := blk_frozen (g := gc) BC_.out 3; have hfze_4 := blk_frozen (g := gc) BC_.out 4; have hfze_5 := blk_frozen (g := gc) BC_.out 5; have hczf_0 := (blk_cell (g := ga) BA_.out 0).trans (show _ = some (.int .i64 0) from rfl); have hczf_1 := (blk_cell (g := ga) BA_.out 1).trans (show _ = some (.int .i64 0) from rfl); have hczf_2 := (blk_cell (g := ga) BA_.out 2).trans (show _ = some (.int .i64 0) from rfl); have hczf_3 := (blk_cell (g := ga) BA_.out 3).trans (show _ = some (.int .i64 0) from rfl); have hczf_4 := (blk_cell (g := ga) BA_.out 4).trans (show _ = some (.int .i64 0) from rfl); have hczf_5 := (blk_cell (g := ga) BA_.out 5).trans (show _ = some (.int .i64 0) from rfl); have hfzf_0 := blk_frozen (g := ga) BA_.out 0; have hfzf_1 := blk_frozen (g := ga) BA_.out 1; have hfzf_2 := blk_frozen (g := ga) BA_.out 2; have hfzf_3 := blk_frozen (g := ga) BA_.out 3; have hfzf_4 := blk_frozen (g := ga) BA_.out 4; have hfzf_5 := blk_frozen (g := ga) BA_.out 5))
              repeat (go_quiet (fail); try go_wp2_with (first | (go_at_call 56; (with_reducible refine (impl_FormatConfig.calls (hF := Fit.below HF.out (by repeat (first | (with_reducible first | exact HB.out | apply below_alloc | apply pw_below_drewN | apply below_drew1 | refine below_set ?_ GA_.out | refine below_set ?_ GC_.out) | exact HB.out))) x0 x1 x2 x3 2 x5 u _ AU.out).mono ?_); rintro e w_ ⟨rfl, hb⟩; have m0_ := Aside0.mk (blk_below (g := ga) (o := .cells #[.int .i64 0, .int .i64 0, .int .i64 0, .int .i64 0, .int .i64 0, .int .i64 0] 47 (0, 0)) (by (with_reducible repeat (first | refine blk_drewN ?_ _ | refine blk_drew ?_ | refine blk_alloc ?_ _)); exact BA_.out) hb); have m1_ := Aside0.mk (blk_below (g := gc) (o := .cells #[.int .i64 x0, .int .i64 x1, .int .i64 x2, .int .i64 x3, .int .i64 2, .int .i64 x5] 47 (0, 0)) (by (with_reducible repeat (first | refine blk_drewN ?_ _ | refine blk_drew ?_ | refine blk_alloc ?_ _)); exact BC_.out) hb); have l0_ := Aside0.mk (below_step (by repeat (first | (with_reducible first | exact HB.out | apply below_alloc | apply pw_below_drewN | apply below_drew1 | refine below_set ?_ GA_.out | refine below_set ?_ GC_.out) | exact HB.out)) hb); clear BA_; clear BC_; clear HB; have BA_ := m0_; have BC_ := m1_; have HB := l0_; clear  m0_ m1_ l0_; clear hb; have hcze_0 := (blk_cell (g := gc) BC_.out 0).trans (show _ = some (.int .i64 x0) from rfl); have hcze_1 := (blk_cell (g := gc) BC_.out 1).trans (show _ = some (.int .i64 x1) from rfl); have hcze_2 := (blk_cell (g := gc) BC_.out 2).trans (show _ = some (.int .i64 x2) from rfl); have hcze_3 := (blk_cell (g := gc) BC_.out 3).trans (show _ = some (.int .i64 x3) from rfl); have hcze_4 := (blk_cell (g := gc) BC_.out 4).trans (show _ = some (.int .i64 2) from rfl); have hcze_5 := (blk_cell (g := gc) BC_.out 5).trans (show _ = some (.int .i64 x5) from rfl); have hfze_0 := blk_frozen (g := gc) BC_.out 0; have hfze_1 := blk_frozen (g := gc) BC_.out 1; have hfze_2 := blk_frozen (g := gc) BC_.out 2; have hfze_3 := blk_frozen (g := gc) BC_.out 3; have hfze_4 := blk_frozen (g := gc) BC_.out 4; have hfze_5 := blk_frozen (g := gc) BC_.out 5; have hczf_0 := (blk_cell (g := ga) BA_.out 0).trans (show _ = some (.int .i64 0) from rfl); have hczf_1 := (blk_cell (g := ga) BA_.out 1).trans (show _ = some (.int .i64 0) from rfl); have hczf_2 := (blk_cell (g := ga) BA_.out 2).trans (show _ = some (.int .i64 0) from rfl); have hczf_3 := (blk_cell (g := ga) BA_.out 3).trans (show _ = some (.int .i64 0) from rfl); have hczf_4 := (blk_cell (g := ga) BA_.out 4).trans (show _ = some (.int .i64 0) from rfl); have hczf_5 := (blk_cell (g := ga) BA_.out 5).trans (show _ = some (.int .i64 0) from rfl); have hfzf_0 := blk_frozen (g := ga) BA_.out 0; have hfzf_1 := blk_frozen (g := ga) BA_.out 1; have hfzf_2 := blk_frozen (g := ga) BA_.out 2; have hfzf_3 := blk_frozen (g := ga) BA_.out 3; have hfzf_4 := blk_frozen (g := ga) BA_.out 4; have hfzf_5 := blk_frozen (g := ga) BA_.out 5)))
              refine bodyPost_ret (results_ct rfl _ _ ga 47 #[.int .i64 x0, .int .i64 x1, .int .i64 x2, .int .i64 x3, .int .i64 2, .int .i64 x5] (0, 0) _ rfl (by (with_reducible repeat (first | refine blk_drewN ?_ _ | refine blk_drew ?_ | refine blk_alloc ?_ _)); refine blk_put (cs := #[.int .i64 x0, .int .i64 x1, .int .i64 x2, .int .i64 x3, .int .i64 2, .int .i64 0]) ?_ 5 _ rfl; (with_reducible repeat (first | refine blk_drewN ?_ _ | refine blk_drew ?_ | refine blk_alloc ?_ _)); refine blk_put (cs := #[.int .i64 x0, .int .i64 x1, .int .i64 x2, .int .i64 x3, .int .i64 0, .int .i64 0]) ?_ 4 _ rfl; (with_reducible repeat (first | refine blk_drewN ?_ _ | refine blk_drew ?_ | refine blk_alloc ?_ _)); refine blk_put (cs := #[.int .i64 x0, .int .i64 x1, .int .i64 x2, .int .i64 0, .int .i64 0, .int .i64 0]) ?_ 3 _ rfl; (with_reducible repeat (first | refine blk_drewN ?_ _ | refine blk_drew ?_ | refine blk_alloc ?_ _)); refine blk_put (cs := #[.int .i64 x0, .int .i64 x1, .int .i64 0, .int .i64 0, .int .i64 0, .int .i64 0]) ?_ 2 _ rfl; (with_reducible repeat (first | refine blk_drewN ?_ _ | refine blk_drew ?_ | refine blk_alloc ?_ _)); refine blk_put (cs := #[.int .i64 x0, .int .i64 0, .int .i64 0, .int .i64 0, .int .i64 0, .int .i64 0]) ?_ 1 _ rfl; (with_reducible repeat (first | refine blk_drewN ?_ _ | refine blk_drew ?_ | refine blk_alloc ?_ _)); refine blk_put (cs := #[.int .i64 0, .int .i64 0, .int .i64 0, .int .i64 0, .int .i64 0, .int .i64 0]) ?_ 0 _ rfl; (with_reducible repeat (first | refine blk_drewN ?_ _ | refine blk_drew ?_ | refine blk_alloc ?_ _)); exact BA_.out) Tryd.underlying47 rfl (by kernel_rfl)) rfl ?_
              exact ⟨by first | rfl | (simp <;> rfl) | (simp [*] <;> rfl), by repeat (first | (with_reducible first | exact HB.out | apply below_alloc | apply pw_below_drewN | apply below_drew1 | refine below_set ?_ GA_.out | refine below_set ?_ GC_.out) | exact HB.out)⟩
            · have H := HH.out
              rw [if_neg c9] at H
              have c9b0 : (u.toList == a0.toList) = false := beq_eq_false_iff_ne.mpr c9
              have c9b1 : (u.toList != a0.toList) = true := bne_iff_ne.mpr c9
              clear c9 HH
              simp only [Option.some.injEq, Prod.mk.injEq] at H
              obtain ⟨rfl, rfl, rfl, rfl, rfl, rfl, rfl⟩ := H
              go_wp2_with (first | (go_at_call 56; (with_reducible refine (impl_FormatConfig.calls (hF := Fit.below HF.out (by repeat (first | (with_reducible first | exact HB.out | apply below_alloc | apply pw_below_drewN | apply below_drew1 | refine below_set ?_ GA_.out | refine below_set ?_ GC_.out) | exact HB.out))) x0 x1 x2 x3 2 x5 u _ AU.out).mono ?_); rintro e w_ ⟨rfl, hb⟩; have m0_ := Aside0.mk (blk_below (g := ga) (o := .cells #[.int .i64 0, .int .i64 0, .int .i64 0, .int .i64 0, .int .i64 0, .int .i64 0] 47 (0, 0)) (by (with_reducible repeat (first | refine blk_drewN ?_ _ | refine blk_drew ?_ | refine blk_alloc ?_ _)); exact BA_.out) hb); have m1_ := Aside0.mk (blk_below (g := gc) (o := .cells #[.int .i64 x0, .int .i64 x1, .int .i64 x2, .int .i64 x3, .int .i64 2, .int .i64 x5] 47 (0, 0)) (by (with_reducible repeat (first | refine blk_drewN ?_ _ | refine blk_drew ?_ | refine blk_alloc ?_ _)); exact BC_.out) hb); have l0_ := Aside0.mk (below_step (by repeat (first | (with_reducible first | exact HB.out | apply below_alloc | apply pw_below_drewN | apply below_drew1 | refine below_set ?_ GA_.out | refine below_set ?_ GC_.out) | exact HB.out)) hb); clear BA_; clear BC_; clear HB; have BA_ := m0_; have BC_ := m1_; have HB := l0_; clear  m0_ m1_ l0_; clear hb; have hcze_0 := (blk_cell (g := gc) BC_.out 0).trans (show _ = some (.int .i64 x0) from rfl); have hcze_1 := (blk_cell (g := gc) BC_.out 1).trans (show _ = some (.int .i64 x1) from rfl); have hcze_2 := (blk_cell (g := gc) BC_.out 2).trans (show _ = some (.int .i64 x2) from rfl); have hcze_3 := (blk_cell (g := gc) BC_.out 3).trans (show _ = some (.int .i64 x3) from rfl); have hcze_4 := (blk_cell (g := gc) BC_.out 4).trans (show _ = some (.int .i64 2) from rfl); have hcze_5 := (blk_cell (g := gc) BC_.out 5).trans (show _ = some (.int .i64 x5) from rfl); have hfze_0 := blk_frozen (g := gc) BC_.out 0; have hfze_1 := blk_frozen (g := gc) BC_.out 1; have hfze_2 := blk_frozen (g := gc) BC_.out 2; have hfze_3 := blk_frozen (g := gc) BC_.out 3; have hfze_4 := blk_frozen (g := gc) BC_.out 4; have hfze_5 := blk_frozen (g := gc) BC_.out 5; have hczf_0 := (blk_cell (g := ga) BA_.out 0).trans (show _ = some (.int .i64 0) from rfl); have hczf_1 := (blk_cell (g := ga) BA_.out 1).trans (show _ = some (.int .i64 0) from rfl); have hczf_2 := (blk_cell (g := ga) BA_.out 2).trans (show _ = some (.int .i64 0) from rfl); have hczf_3 := (blk_cell (g := ga) BA_.out 3).trans (show _ = some (.int .i64 0) from rfl); have hczf_4 := (blk_cell (g := ga) BA_.out 4).trans (show _ = some (.int .i64 0) from rfl); have hczf_5 := (blk_cell (g := ga) BA_.out 5).trans (show _ = some (.int .i64 0) from rfl); have hfzf_0 := blk_frozen (g := ga) BA_.out 0; have hfzf_1 := blk_frozen (g := ga) BA_.out 1; have hfzf_2 := blk_frozen (g := ga) BA_.out 2; have hfzf_3 := blk_frozen (g := ga) BA_.out 3; have hfzf_4 := blk_frozen (g := ga) BA_.out 4; have hfzf_5 := blk_frozen (g := ga) BA_.out 5))
              repeat (go_quiet (fail); try go_wp2_with (first | (go_at_call 56; (with_reducible refine (impl_FormatConfig.calls (hF := Fit.below HF.out (by repeat (first | (with_reducible first | exact HB.out | apply below_alloc | apply pw_below_drewN | apply below_drew1 | refine below_set ?_ GA_.out | refine below_set ?_ GC_.out) | exact HB.out))) x0 x1 x2 x3 2 x5 u _ AU.out).mono ?_); rintro e w_ ⟨rfl, hb⟩; have m0_ := Aside0.mk (blk_below (g := ga) (o := .cells #[.int .i64 0, .int .i64 0, .int .i64 0, .int .i64 0, .int .i64 0, .int .i64 0] 47 (0, 0)) (by (with_reducible repeat (first | refine blk_drewN ?_ _ | refine blk_drew ?_ | refine blk_alloc ?_ _)); exact BA_.out) hb); have m1_ := Aside0.mk (blk_below (g := gc) (o := .cells #[.int .i64 x0, .int .i64 x1, .int .i64 x2, .int .i64 x3, .int .i64 2, .int .i64 x5] 47 (0, 0)) (by (with_reducible repeat (first | refine blk_drewN ?_ _ | refine blk_drew ?_ | refine blk_alloc ?_ _)); exact BC_.out) hb); have l0_ := Aside0.mk (below_step (by repeat (first | (with_reducible first | exact HB.out | apply below_alloc | apply pw_below_drewN | apply below_drew1 | refine below_set ?_ GA_.out | refine below_set ?_ GC_.out) | exact HB.out)) hb); clear BA_; clear BC_; clear HB; have BA_ := m0_; have BC_ := m1_; have HB := l0_; clear  m0_ m1_ l0_; clear hb; have hcze_0 := (blk_cell (g := gc) BC_.out 0).trans (show _ = some (.int .i64 x0) from rfl); have hcze_1 := (blk_cell (g := gc) BC_.out 1).trans (show _ = some (.int .i64 x1) from rfl); have hcze_2 := (blk_cell (g := gc) BC_.out 2).trans (show _ = some (.int .i64 x2) from rfl); have hcze_3 := (blk_cell (g := gc) BC_.out 3).trans (show _ = some (.int .i64 x3) from rfl); have hcze_4 := (blk_cell (g := gc) BC_.out 4).trans (show _ = some (.int .i64 2) from rfl); have hcze_5 := (blk_cell (g := gc) BC_.out 5).trans (show _ = some (.int .i64 x5) from rfl); have hfze_0 := blk_frozen (g := gc) BC_.out 0; have hfze_1 := blk_frozen (g := gc) BC_.out 1; have hfze_2 := blk_frozen (g := gc) BC_.out 2; have hfze_3 := blk_frozen (g := gc) BC_.out 3; have hfze_4 := blk_frozen (g := gc) BC_.out 4; have hfze_5 := blk_frozen (g := gc) BC_.out 5; have hczf_0 := (blk_cell (g := ga) BA_.out 0).trans (show _ = some (.int .i64 0) from rfl); have hczf_1 := (blk_cell (g := ga) BA_.out 1).trans (show _ = some (.int .i64 0) from rfl); have hczf_2 := (blk_cell (g := ga) BA_.out 2).trans (show _ = some (.int .i64 0) from rfl); have hczf_3 := (blk_cell (g := ga) BA_.out 3).trans (show _ = some (.int .i64 0) from rfl); have hczf_4 := (blk_cell (g := ga) BA_.out 4).trans (show _ = some (.int .i64 0) from rfl); have hczf_5 := (blk_cell (g := ga) BA_.out 5).trans (show _ = some (.int .i64 0) from rfl); have hfzf_0 := blk_frozen (g := ga) BA_.out 0; have hfzf_1 := blk_frozen (g := ga) BA_.out 1; have hfzf_2 := blk_frozen (g := ga) BA_.out 2; have hfzf_3 := blk_frozen (g := ga) BA_.out 3; have hfzf_4 := blk_frozen (g := ga) BA_.out 4; have hfzf_5 := blk_frozen (g := ga) BA_.out 5)))
              refine bodyPost_ret (results_ct rfl _ _ ga 47 #[.int .i64 0, .int .i64 0, .int .i64 0, .int .i64 0, .int .i64 0, .int .i64 0] (0, 0) _ rfl (by (with_reducible repeat (first | refine blk_drewN ?_ _ | refine blk_drew ?_ | refine blk_alloc ?_ _)); refine blk_put (cs := #[.int .i64 0, .int .i64 0, .int .i64 0, .int .i64 0, .int .i64 0, .int .i64 0]) ?_ 5 _ rfl; (with_reducible repeat (first | refine blk_drewN ?_ _ | refine blk_drew ?_ | refine blk_alloc ?_ _)); refine blk_put (cs := #[.int .i64 0, .int .i64 0, .int .i64 0, .int .i64 0, .int .i64 0, .int .i64 0]) ?_ 4 _ rfl; (with_reducible repeat (first | refine blk_drewN ?_ _ | refine blk_drew ?_ | refine blk_alloc ?_ _)); refine blk_put (cs := #[.int .i64 0, .int .i64 0, .int .i64 0, .int .i64 0, .int .i64 0, .int .i64 0]) ?_ 3 _ rfl; (with_reducible repeat (first | refine blk_drewN ?_ _ | refine blk_drew ?_ | refine blk_alloc ?_ _)); refine blk_put (cs := #[.int .i64 0, .int .i64 0, .int .i64 0, .int .i64 0, .int .i64 0, .int .i64 0]) ?_ 2 _ rfl; (with_reducible repeat (first | refine blk_drewN ?_ _ | refine blk_drew ?_ | refine blk_alloc ?_ _)); refine blk_put (cs := #[.int .i64 0, .int .i64 0, .int .i64 0, .int .i64 0, .int .i64 0, .int .i64 0]) ?_ 1 _ rfl; (with_reducible repeat (first | refine blk_drewN ?_ _ | refine blk_drew ?_ | refine blk_alloc ?_ _)); refine blk_put (cs := #[.int .i64 0, .int .i64 0, .int .i64 0, .int .i64 0, .int .i64 0, .int .i64 0]) ?_ 0 _ rfl; (with_reducible repeat (first | refine blk_drewN ?_ _ | refine blk_drew ?_ | refine blk_alloc ?_ _)); exact BA_.out) Tryd.underlying47 rfl (by kernel_rfl)) rfl ?_
              exact ⟨by first | rfl | (simp <;> rfl) | (simp [*] <;> rfl), by repeat (first | (with_reducible first | exact HB.out | apply below_alloc | apply pw_below_drewN | apply below_drew1 | refine below_set ?_ GA_.out | refine below_set ?_ GC_.out) | exact HB.out)⟩
  · rw [if_neg c3] at H
    have c3b0 : ((t.length : Int) == 11) = false := beq_eq_false_iff_ne.mpr (by omega)
    have c3b1 : ((t.length : Int) != 11) = true := bne_iff_ne.mpr (by omega)
    clear c3
    simp only [Option.some.injEq, Prod.mk.injEq] at H
    obtain ⟨rfl, rfl, rfl, rfl, rfl, rfl, rfl⟩ := H
    go_enter Tryd.func47, Tryd.ntmps47
    go_wp2_with (first | ((with_reducible refine gate_dst (N := 2) rfl ?_); refine box_event ?hg (N := 2) ?hd (cs := #[.int .i64 0, .int .i64 0, .int .i64 0, .int .i64 0, .int .i64 0, .int .i64 0]) (t := 47) ?hr ?_; (case hd => rfl); (case hg => rfl); (case hr => first | (go_simp; done) | (go_simp; rfl)); intro ga hg w_ hbox hb; have g0_ := Aside0.mk ((by rw [hg]; exact (below_size (by repeat (first | (with_reducible first | exact HB.out | apply below_alloc | apply pw_below_drewN | apply below_drew1) | exact HB.out)))) : w.heap.size ≤ ga); have l0_ := Aside0.mk (below_step (by repeat (first | (with_reducible first | exact HB.out | apply below_alloc | apply pw_below_drewN | apply below_drew1) | exact HB.out)) hb); clear HB; have HB := l0_; clear  l0_; clear hb; have BA_ := Aside0.mk hbox; have GA_ := g0_; clear g0_; clear hbox hg) | (go_at_call 90; (with_reducible refine (strings_Split.calls (hF := Fit.below HF.out (by repeat (first | (with_reducible first | exact HB.out | apply below_alloc | apply pw_below_drewN | apply below_drew1 | refine below_set ?_ GA_.out) | exact HB.out))) a0 (⟨#[32]⟩ : ByteArray) t _ AT.out).mono ?_); rintro e w_ ⟨v_, rfl, ho, hb⟩; have n0_ := Aside0.mk (Kd.R_lower ho (below_size (by repeat (first | (with_reducible first | exact HB.out | apply below_alloc | apply pw_below_drewN | apply below_drew1 | refine below_set ?_ GA_.out) | exact HB.out)))); have m0_ := Aside0.mk (blk_below (g := ga) (o := .cells #[.int .i64 0, .int .i64 0, .int .i64 0, .int .i64 0, .int .i64 0, .int .i64 0] 47 (0, 0)) (by (with_reducible repeat (first | refine blk_drewN ?_ _ | refine blk_drew ?_ | refine blk_alloc ?_ _)); exact BA_.out) hb); have l0_ := Aside0.mk (below_step (by repeat (first | (with_reducible first | exact HB.out | apply below_alloc | apply pw_below_drewN | apply below_drew1 | refine below_set ?_ GA_.out) | exact HB.out)) hb); clear BA_; clear HB; have BA_ := m0_; have HB := l0_; clear  m0_ l0_; clear hb; have HO := n0_; clear n0_; clear ho; obtain ⟨Ao, co, eo⟩ := Kd.R_slice HO.out; subst eo; have hczf_0 := (blk_cell (g := ga) BA_.out 0).trans (show _ = some (.int .i64 0) from rfl); have hczf_1 := (blk_cell (g := ga) BA_.out 1).trans (show _ = some (.int .i64 0) from rfl); have hczf_2 := (blk_cell (g := ga) BA_.out 2).trans (show _ = some (.int .i64 0) from rfl); have hczf_3 := (blk_cell (g := ga) BA_.out 3).trans (show _ = some (.int .i64 0) from rfl); have hczf_4 := (blk_cell (g := ga) BA_.out 4).trans (show _ = some (.int .i64 0) from rfl); have hczf_5 := (blk_cell (g := ga) BA_.out 5).trans (show _ = some (.int .i64 0) from rfl); have hfzf_0 := blk_frozen (g := ga) BA_.out 0; have hfzf_1 := blk_frozen (g := ga) BA_.out 1; have hfzf_2 := blk_frozen (g := ga) BA_.out 2; have hfzf_3 := blk_frozen (g := ga) BA_.out 3; have hfzf_4 := blk_frozen (g := ga) BA_.out 4; have hfzf_5 := blk_frozen (g := ga) BA_.out 5))
    refine bodyPost_ret (results_ct rfl _ _ ga 47 #[.int .i64 0, .int .i64 0, .int .i64 0, .int .i64 0, .int .i64 0, .int .i64 0] (0, 0) _ rfl (by (with_reducible repeat (first | refine blk_drewN ?_ _ | refine blk_drew ?_ | refine blk_alloc ?_ _)); refine blk_put (cs := #[.int .i64 0, .int .i64 0, .int .i64 0, .int .i64 0, .int .i64 0, .int .i64 0]) ?_ 5 _ rfl; (with_reducible repeat (first | refine blk_drewN ?_ _ | refine blk_drew ?_ | refine blk_alloc ?_ _)); refine blk_put (cs := #[.int .i64 0, .int .i64 0, .int .i64 0, .int .i64 0, .int .i64 0, .int .i64 0]) ?_ 4 _ rfl; (with_reducible repeat (first | refine blk_drewN ?_ _ | refine blk_drew ?_ | refine blk_alloc ?_ _)); refine blk_put (cs := #[.int .i64 0, .int .i64 0, .int .i64 0, .int .i64 0, .int .i64 0, .int .i64 0]) ?_ 3 _ rfl; (with_reducible repeat (first | refine blk_drewN ?_ _ | refine blk_drew ?_ | refine blk_alloc ?_ _)); refine blk_put (cs := #[.int .i64 0, .int .i64 0, .int .i64 0, .int .i64 0, .int .i64 0, .int .i64 0]) ?_ 2 _ rfl; (with_reducible repeat (first | refine blk_drewN ?_ _ | refine blk_drew ?_ | refine blk_alloc ?_ _)); refine blk_put (cs := #[.int .i64 0, .int .i64 0, .int .i64 0, .int .i64 0, .int .i64 0, .int .i64 0]) ?_ 1 _ rfl; (with_reducible repeat (first | refine blk_drewN ?_ _ | refine blk_drew ?_ | refine blk_alloc ?_ _)); refine blk_put (cs := #[.int .i64 0, .int .i64 0, .int .i64 0, .int .i64 0, .int .i64 0, .int .i64 0]) ?_ 0 _ rfl; (with_reducible repeat (first | refine blk_drewN ?_ _ | refine blk_drew ?_ | refine blk_alloc ?_ _)); exact BA_.out) Tryd.underlying47 rfl (by kernel_rfl)) rfl ?_
    exact ⟨by first | rfl | (simp <;> rfl) | (simp [*] <;> rfl), by repeat (first | (with_reducible first | exact HB.out | apply below_alloc | apply pw_below_drewN | apply below_drew1 | refine below_set ?_ GA_.out) | exact HB.out)⟩

end Go.Proofs.YtbenihcaleiacabDoor.GFnLayout
