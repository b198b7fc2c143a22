/- The row of the law FnExactParseConfig: for every input that can be read it returns true and leaves its arguments as they were. No condition. -/
import Derived.Test.YtbenihcaleiacabDoorRows
import Derived.Test.YtbenihcaleiacabDoorTie
import Derived.Test.YtbenihcaleiacabDoorCards
import Derived.SevenTiedAt
import Derived.LaidMore
import Derived.Lay
import Derived.MakeChecks
import Derived.Stop.Joined
import Derived.Lib.LaidU8
import Derived.Lib.LaidTab
import Derived.Handed
import Derived.Test.YtbenihcaleiacabDoorGFnExactParseConfigx6
import Derived.Test.YtbenihcaleiacabDoorPureFnExactParseConfig
import Derived.WalkKit
import Derived.ProofKit
import Derived.OpenShut
import Derived.ShutString
import Derived.ChangeOld
import Derived.Below
import Derived.SizedLaws
import Derived.Deep.Fields
import Derived.Deep.Slices
import Derived.Lib.SmallJoins
set_option linter.unusedVariables false
set_option linter.unusedSimpArgs false
namespace Go.Proofs.YtbenihcaleiacabDoor.fnExactParseConfig
open Go.ChangeShapes Go.WideShapes Go.ChangeAt Go.RowKit Go.Deep Go.Proofs.YtbenihcaleiacabDoorW.PrintWords
open Go.ChangeMaps (open_string shut_string)
/-- The wrap: what the row lists and the world's shape reach the contract. -/
theorem wrap {H : Type} {enc : TypeId × Value → H} {C : Checked} {os : Os} {f : FuncId} {fn : Func} {s : ChangeSpec} {conds : List PathCond} {apart fresh handsOn again : Bool} {X : World → Array Value → Prop}
    (hX : ∀ (w w' : World) (args : Array Value), w.heap = w'.heap → X w args → X w' args)
    (own : ownKnob C.prog.godebug = none) (started : os.Started) (noInit : C.prog.inits.idxOf? f = none) (hfn : C.prog.funcs[f]? = some fn)
    (witness : ∃ (w : World) (tape : Tape) (i : Input), w.os = os ∧ (w.forCall tape i).Shaped C.prog ∧ i.vars = [] ∧ Input.okWide C.prog (w.forCall tape i) .any w.heap.size f i ∧
      ((s.pre enc C.prog fn conds apart (w.forCall tape i).memory i.args ∧ X (w.forCall tape i).memory i.args) ∧ sizedMet enc C.prog fn (OpenSpec.ofChange s) apart (w.forCall tape i).memory i.args) ∧ ({} : Assume).holds C.prog (lone (Frame.enter C.prog f i.args .normal) [] (w.forCall tape i)))
    (contract : ∀ (W : World) (base : Nat) (args : Array Value) (ds gs : List (DataW H)) (before : List MemPlace),
      (∀ (j : Nat) t v, fn.params[j]? = some t → args[j]? = some v → Value.okWide C.prog W .any base t v) →
      DataW.Whole enc C.prog fn.params.toList s.vars apart W args.toList ds gs before →
      (DataW.weightsEach C.prog (fn.params.toList ++ s.plain.varTypes C.prog) (ds ++ gs)).all (· ≤ reachBytes) = true → X W args → W.ShapedOpen C.prog →
      Calls C.prog f args W fun e W' => ∃ v, e = .returned v ∧ s.post enc C.prog fn apart fresh handsOn again W args v W') :
    ReturnsInHanded {} C os f .any (fun w args => (s.pre enc C.prog fn conds apart w args ∧ X w args) ∧ sizedMet enc C.prog fn (OpenSpec.ofChange s) apart w args) (s.post enc C.prog fn apart fresh handsOn again) := by
  refine returnsInHanded_of_calls own started noInit witness ?_
  intro w tape i _ hsh _ hok hpre _
  obtain ⟨_, _, _, fn', hfn', _, _, _, _, hval⟩ := hok
  have e : fn' = fn := Option.some.inj (hfn'.symm.trans hfn)
  subst e
  obtain ⟨⟨⟨ds, gs, before, hw, _⟩, hx⟩, hz⟩ := hpre
  refine (contract (w.forCall tape i) w.heap.size i.args ds gs before hval (DataW.Whole.of_heap (w' := w.forCall tape i) (by rfl) hw) (hz.weights hw) (hX _ _ _ (by rfl) hx) hsh).mono fun e W' ⟨v, he, hp⟩ => ?_
  subst he
  exact ChangeSpec.post_blind hp
theorem tab_of {l : List (String × DataW Unit)} {W : World} (hL : laidMet Tryd.prog l W) (hm : ("internal/strconv.uint64pow10", Rows.laid_internal_strconv_uint64pow10) ∈ l) : Lib.TabIs Tryd.prog W "internal/strconv.uint64pow10" .u64 Lib.pow10Tab := by
  obtain ⟨g, t, cs, fuel, p, hg, ht, hvar, hd⟩ := Lib.laidMet.reads hL hm
  obtain rfl := Option.some.inj ((show Tryd.prog.globalNamed "internal/strconv.uint64pow10" = some 3 by kernel_rfl).symm.trans hg)
  obtain rfl := Option.some.inj ((show (Tryd.prog.globals[3]?).map (·.type) = some 138 by kernel_rfl).symm.trans ht)
  have e : (Rows.laid_internal_strconv_uint64pow10 : DataW Unit) = Lib.tabData .u64 Lib.pow10Tab := rfl
  rw [e] at hd
  unfold Lib.TabIs
  rw [hvar, ← Lib.cells_of_tab Tryd.underlying138 Tryd.underlying117 (by kernel_rfl) (by kernel_rfl) hd]
theorem held_cells {P : Program} {W : World} {t : TypeId} {ms : Array (String × TypeId)} {fuel : Nat} {cs : List Value} {tn : String} {dd : DataW Unit} {p : List MemPlace} (hu : P.underlying t = some (.interface ms))
    (hd : DataW.trod (fun _ => ()) P W 0 (fun _ => true) false fuel t cs = some (.iface tn dd, p)) : ∃ tp q, cs = [.iface tp q] := by
  cases fuel with
  | zero => simp [DataW.trod] at hd
  | succ fuel =>
    match cs, hd with
    | [], hd => simp [DataW.trod, hu] at hd
    | x :: y :: r, hd => simp [DataW.trod, hu] at hd
    | [x], hd =>
      cases x
      all_goals first | exact ⟨_, _, rfl⟩ | (exfalso; simp [DataW.trod, hu] at hd; done)
theorem held_of {l : List (String × DataW Unit)} {W : World} {n : String} {d : DataW Unit} {t0 : TypeId} {ms : Array (String × TypeId)} {g0 : Nat} (hL : laidMet Tryd.prog l W) (hm : (n, d) ∈ l) (hdd : ∃ tn dd, d = DataW.iface tn dd)
    (hg0 : Tryd.prog.globalNamed n = some g0) (ht0 : (Tryd.prog.globals[g0]?).map (·.type) = some t0) (hu : Tryd.prog.underlying t0 = some (.interface ms)) : ∃ tp p, W.var? Tryd.prog n = some #[.iface tp p] := by
  obtain ⟨g, t, cs, fuel, p, hg, ht, hvar, hd⟩ := Lib.laidMet.reads hL hm
  obtain ⟨tn, dd, rfl⟩ := hdd
  obtain rfl := Option.some.inj (hg0.symm.trans hg)
  obtain rfl := Option.some.inj (ht0.symm.trans ht)
  obtain ⟨tp, q, e⟩ := held_cells hu hd
  refine ⟨tp, q, ?_⟩
  rw [hvar, ← e]
theorem fit_of {W : World} (hL0 : laidMetH Tryd.prog Rows.fnExactParseConfigRow.laid W) (hsh : W.ShapedOpen Tryd.prog) : GFnExactParseConfig.Fit W := by
  have hL : laidMet Tryd.prog Rows.fnExactParseConfigRow.laid W := by rw [← MakeChecks.laidMetH_plain _ _ _ (by kernel_rfl)]; exact hL0
  refine ⟨hsh, tab_of hL (.tail _ (.tail _ (.head _))), held_of (g0 := 0) (t0 := 68) (n := "strconv.ErrSyntax") (d := Rows.laid_strconv_ErrSyntax) hL (.tail _ (.tail _ (.tail _ (.tail _ (.tail _ (.head _)))))) ⟨_, _, rfl⟩ (by kernel_rfl) (by kernel_rfl) Tryd.underlying68, held_of (g0 := 1) (t0 := 68) (n := "strconv.ErrRange") (d := Rows.laid_strconv_ErrRange) hL (.tail _ (.tail _ (.tail _ (.tail _ (.head _))))) ⟨_, _, rfl⟩ (by kernel_rfl) (by kernel_rfl) Tryd.underlying68⟩
theorem own : ownKnob Tryd.prog.godebug = none := by kernel_rfl
theorem laidOut : laidOutB Tryd.prog = true := by kernel_rfl
set_option maxRecDepth 100000 in
theorem lifted (os : Os) (started : os.Started) (H : Type) (enc : TypeId × Value → H) :
    ReturnsInHanded {} Tryd.checked os 8 .any (fun w args => (Rows.fnExactParseConfigSpec.pre enc Tryd.prog Tryd.f8 [] false w args ∧ laidMetH Tryd.prog Rows.fnExactParseConfigRow.laid w) ∧ sizedMet enc Tryd.prog Tryd.f8 (OpenSpec.ofChange Rows.fnExactParseConfigSpec) false w args) (Rows.fnExactParseConfigSpec.post enc Tryd.prog Tryd.f8 false true false false) := by
  refine wrap (C := Tryd.checked) (X := (fun w _ => laidMetH Tryd.prog Rows.fnExactParseConfigRow.laid w)) (fun _ _ _ hh h => h.of_heap hh) own started (by kernel_rfl) Tryd.func8
    (ChangeSpec.witness_shaped (enc := enc) (C := Tryd.checked) (os := os) (X := (fun w _ => laidMetH Tryd.prog Rows.fnExactParseConfigRow.laid w)) false (World.laidAll Tryd.prog os Rows.fnExactParseConfigRow.laid) #[.string ByteArray.empty] 8 (World.laidAll_os _ _ _) (World.shaped_of_ZipB (by kernel_rfl) (by kernel_rfl)) (by kernel_rfl) (by kernel_rfl) (by kernel_rfl) (by rw [MakeChecks.laidMetH_plain _ _ _ (by kernel_rfl)]; exact laidMet_laidAll _ (by kernel_rfl) (by kernel_rfl))) ?_
  intro W base args ds gs before hval0 hW hsz0 hL hsh
  have hF := fit_of hL hsh
  have hsz : (DataW.weightsEach Tryd.prog (Tryd.f8.params.toList ++ Rows.fnExactParseConfigSpec.plain.varTypes Tryd.prog) (ds ++ gs)).all (· ≤ reachBytes) = true := hsz0
  have hval : ∀ (j : Nat) t v, Tryd.f8.params[j]? = some t → args[j]? = some v → Value.okWide Tryd.prog W .any base t v := hval0
  have hW' := hW
  obtain ⟨p, q, hA0, hV, rfl, hfz, hnd⟩ := hW
  have hA : DataW.TrodAll enc Tryd.prog W 0 (fun _ => true) true Tryd.f8.params.toList args.toList ds p := hA0
  rw [Tryd.params8] at hA hval hsz
  obtain ⟨v0, vs0, d0, ds0, p0, q0, hargs, rfl, rfl, h0, r0⟩ := trodAll_cons hA
  obtain ⟨rfl, rfl, rfl⟩ := trodAll_nil r0
  obtain rfl : args = #[v0] := by cases args; simp_all
  obtain ⟨rfl, rfl⟩ := trodVars_none hV
  obtain ⟨a0, rfl, rfl, rfl, y0⟩ := open_string Tryd.underlying9 (hval 0 9 v0 rfl rfl) h0
  have w0 : a0.size ≤ 140737488351232 := by
    have z := sized_string hsz (j := 0) (t := 9) rfl rfl
    rw [Array.length_toList] at z
    exact z
  clear hA0 hval0 hsz0
  obtain ⟨k, hp⟩ := Pure.FnExactParseConfig a0 w0
  refine (GFnExactParseConfig.laws_FnExactParseConfig.calls k a0 true W hF hp).mono ?_
  rintro e W' ⟨rfl, bel0⟩
  have bel : Below W.heap.size W W' := by first | exact bel0 | exact bel0.below
  exact ⟨_, rfl, _, _, _, [], _, [], hW', trodAll_mk1 (shut_bool Tryd.underlying4 _), (trodAll_cons_mk (shut_string Tryd.underlying9 y0) trodAll_mk0), rfl, bel.frame _, fun h => by cases h⟩
theorem over : Rows.fnExactParseConfigRow.holds Tryd.pinned (OpenSpec.ofChange Rows.fnExactParseConfigSpec) :=
  OpenClaim.holds_of_wide 8 Tryd.f8 rfl rfl rfl rfl rfl rfl rfl ⟨rfl, rfl, rfl, rfl, rfl⟩ rfl rfl rfl rfl rfl (by kernel_rfl) Tryd.func8 (by kernel_rfl)
    (of_decide_eq_true (by kernel_rfl)) (by unfold Func.isWrapper; first | (rw [if_pos (by decide +kernel)]; kernel_rfl) | (rw [if_neg (by decide +kernel)]; exact ⟨rfl, rfl⟩))
    (fun os started H enc _ => lifted os started H enc)
theorem proved : Rows.FnExactParseConfigSaid := over
/-- The tied card. -/
theorem tiedCard : Rows.FnExactParseConfigCardSaid :=
  Claim7.holds_tied_plain_at .later [] [.data, .data, .data, .data, .sentinel, .sentinel, .pinned] true (true, "dc50bea489f7c38a644cf63df21d9df82b13f94d82ecd61c8e4849210d148580") true proved (fun _ h => by cases h) (by kernel_rfl) (fun _ h => by cases h) fnExactParseConfig_row_tie rfl ⟨rfl, rfl⟩ (by kernel_rfl) rfl
    (fun f fn hf hfn => by
      obtain rfl : f = 8 := Option.some.inj ((show Tryd.prog.funcNamed "loop.example/g01628/laws.FnExactParseConfig" = some 8 by kernel_rfl).symm.trans hf) |>.symm
      obtain rfl : fn = Tryd.f8 := (Option.some.inj (Tryd.func8.symm.trans hfn)).symm
      exact ⟨by kernel_rfl, fun j t ht => by
        rw [Tryd.params8] at ht
        have hm : t ∈ [9] := by simpa using Array.mem_of_getElem? ht
        have hall : ([9].all fun u => !Tryd.prog.wantsStandIn u) = true := by kernel_rfl
        exact (show Tryd.prog.wantsStandIn t = false by simpa using List.all_eq_true.1 hall t hm)⟩)
    (by kernel_rfl)
#print axioms tiedCard
end Go.Proofs.YtbenihcaleiacabDoor.fnExactParseConfig
namespace Go.Proofs.YtbenihcaleiacabDoor
/-- The row, under a short name, for the claim. -/
theorem fnExactParseConfig_holds : Rows.FnExactParseConfigCardSaid := fnExactParseConfig.tiedCard
end Go.Proofs.YtbenihcaleiacabDoor
