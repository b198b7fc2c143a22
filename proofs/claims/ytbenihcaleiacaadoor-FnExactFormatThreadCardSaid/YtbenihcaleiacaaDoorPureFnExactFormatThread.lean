/- The pure side of FnExactFormatThread: the program's FormatThread answers what the reference's does and leaves the thread as it was, for every thread (the law itself answers true past 1048576). No condition. -/
import Derived.Test.YtbenihcaleiacaaDoorGFnExactFormatThreadx6
import Derived.OpenShut
import Derived.Laws.BitsLemmas
set_option linter.unusedVariables false
set_option linter.unusedSimpArgs false
namespace Go.Proofs.YtbenihcaleiacaaDoor.Pure
open Go.RowKit Go.Proofs.YtbenihcaleiacaaDoor.GFnExactFormatThread Go.Proofs.YtbenihcaleiacaaDoorW.PrintWords Go.Proofs.YtbenihcaleiacaaDoorW.PrintLast

theorem w64 {x : Int} (h : -9223372036854775808 ≤ x) (h' : x ≤ 9223372036854775807) : wrap64 x = x := by unfold wrap64; omega
theorem tdiv_pos {x y : Int} (h : 0 ≤ x) : Int.tdiv x y = x / y := Int.tdiv_eq_ediv_of_nonneg h
theorem tmod_pos {x y : Int} (h : 0 ≤ x) : Int.tmod x y = x % y := Int.tmod_eq_emod_of_nonneg h
theorem eq_strs {g w : Option ByteArray} {r : ByteArray} (h1 : w = some r) (h2 : g = some r) : (w.bind fun t => g.bind fun u => if u.toList = t.toList then some true else some false) = some true := by
  subst h1; subst h2; simp
theorem eq_ints {g w : Option Int} {r : Int} (h1 : w = some r) (h2 : g = some r) : (w.bind fun t => g.bind fun u => if u = t then some true else some false) = some true := by
  subst h1; subst h2; simp
theorem eq_bools {g w : Option Bool} {r : Bool} (h1 : w = some r) (h2 : g = some r) : (w.bind fun t => g.bind fun u => if (u != t) = true then some false else some true) = some true := by
  subst h1; subst h2; simp
theorem ev_strs {g w : Nat → Option ByteArray} {r : ByteArray} (h1 : Ev w r) (h2 : Ev g r) : ∃ k, ((w k).bind fun t => (g k).bind fun u => if u.toList = t.toList then some true else some false) = some true := by
  obtain ⟨K, h1⟩ := h1
  obtain ⟨L, h2⟩ := h2
  exact ⟨max K L, eq_strs (h1 _ (by omega)) (h2 _ (by omega))⟩
theorem ev2 {α β : Type} {g : Nat → Option α} {f : Nat → Option β} {a : α} {b : β} {F : α → β → Option Bool} (hg : Ev g a) (hf : Ev f b) (h : F a b = some true) : ∃ k, ((g k).bind fun t => (f k).bind fun u => F t u) = some true :=
  (Ev.bind hg (Ev.bind hf ⟨0, fun _ _ => h⟩)).rounds
theorem rd_eq (l : List Int) (i : Nat) (h : i < l.length) : rd l (i : Int) = l[i] := by
  unfold rd
  rw [show ((i : Int)).toNat = i by omega, List.getD_eq_getElem?_getD, List.getElem?_eq_getElem h]
  rfl
theorem rdT_eq (l : List S39) (i : Nat) (h : i < l.length) : rd_T39 l (i : Int) = l[i] := by
  unfold rd_T39
  rw [show ((i : Int)).toNat = i by omega, List.getD_eq_getElem?_getD, List.getElem?_eq_getElem h]
  rfl
def toE (e : S37) : S39 := ⟨e.f0, e.f1, e.f2, e.f3⟩
theorem rdL_eq (l : List S37) (i : Nat) (h : i < l.length) : rd_T37 l (i : Int) = l[i] := by
  unfold rd_T37
  rw [show ((i : Int)).toNat = i by omega, List.getD_eq_getElem?_getD, List.getElem?_eq_getElem h]
  rfl
theorem toEntryS_l (l : List S37) (hl : l.length ≤ 1048576) (d : Nat) : ∀ i : Nat, i + d = l.length → Ev (fun k => laws_toEntryS.l0 k l ((l.map toE).take i ++ List.replicate d z39) i) (l.map toE) := by
  induction d with
  | zero =>
    intro i hi
    refine Ev.step (f := fun _ => some _) (fun k => ?_) (Ev.now _)
    simp only [laws_toEntryS.l0]
    rw [if_neg (by omega), List.take_of_length_le (by simp; omega)]
    simp
  | succ d ih =>
    intro i hi
    refine Ev.step (fun k => ?_) (ih (i + 1) (by omega))
    have hlen : ((l.map toE).take i).length = i := by rw [List.length_take, List.length_map]; omega
    simp only [laws_toEntryS.l0, laws_toEntry.f, Option.bind_some]
    rw [if_pos (by omega), if_pos (by omega), if_pos (by rw [List.length_append, hlen, List.length_replicate]; omega), w64 (by omega) (by omega), rdL_eq l i (by omega)]
    congr 1
    rw [show ((i : Int)).toNat = i by omega, List.set_append_right _ _ (by omega), hlen, List.take_succ_eq_append_getElem (by simp; omega), List.append_assoc]
    simp [List.replicate_succ, toE]
theorem toEntryS (l : List S37) (hl : l.length ≤ 1048576) : Ev (fun k => laws_toEntryS.f k l) (l.map toE) := by
  unfold laws_toEntryS.f
  simp only [if_pos (show 0 ≤ (l.length : Int) by omega), if_pos (show ((l.length : Int)).toNat ≤ 8796093022208 by omega)]
  exact toEntryS_l l hl l.length 0 (by omega)
theorem eqEntryS_l (l : List S39) (hl : l.length ≤ 1048576) (d : Nat) : ∀ i : Nat, i + d = l.length → Ev (fun k => laws_eqEntryS.l0 k l l i) true := by
  induction d with
  | zero =>
    intro i hi
    refine Ev.step (f := fun _ => some true) (fun k => ?_) (Ev.now _)
    simp only [laws_eqEntryS.l0]
    rw [if_neg (by omega)]
  | succ d ih =>
    intro i hi
    refine Ev.step (fun k => ?_) (ih (i + 1) (by omega))
    simp only [laws_eqEntryS.l0, laws_eqEntry.f, if_true, Option.bind_some]
    rw [if_pos (by omega), if_pos (by omega), w64 (by omega) (by omega), if_pos (by omega)]
    rfl
theorem eqEntryS_refl (l : List S39) (hl : l.length ≤ 1048576) : Ev (fun k => laws_eqEntryS.f k l l) true := by
  unfold laws_eqEntryS.f
  simp only [if_true]
  exact eqEntryS_l l hl l.length 0 (by omega)
theorem toIntS_l (l : List Int) (hl : l.length ≤ 1048576) (d : Nat) : ∀ i : Nat, i + d = l.length → Ev (fun k => laws_toIntS.l0 k l (l.take i ++ List.replicate d 0) i) l := by
  induction d with
  | zero =>
    intro i hi
    refine Ev.step (f := fun _ => some l) (fun k => ?_) (Ev.now _)
    simp only [laws_toIntS.l0]
    rw [if_neg (by omega), List.take_of_length_le (by omega)]
    simp
  | succ d ih =>
    intro i hi
    refine Ev.step (fun k => ?_) (ih (i + 1) (by omega))
    simp only [laws_toIntS.l0]
    have hlen : (l.take i).length = i := by rw [List.length_take]; omega
    rw [if_pos (by omega), if_pos (by omega), if_pos (by rw [List.length_append, hlen, List.length_replicate]; omega), w64 (by omega) (by omega), rd_eq l i (by omega)]
    congr 1
    rw [show ((i : Int)).toNat = i by omega, List.set_append_right _ _ (by omega), hlen, List.take_succ_eq_append_getElem (by omega), List.append_assoc]
    simp [List.replicate_succ]
theorem toIntS (l : List Int) (hl : l.length ≤ 1048576) : Ev (fun k => laws_toIntS.f k l) l := by
  unfold laws_toIntS.f
  simp only [if_pos (show 0 ≤ (l.length : Int) by omega), if_pos (show ((l.length : Int)).toNat ≤ 35184372088832 by omega)]
  exact toIntS_l l hl l.length 0 (by omega)
theorem eqIntS_l (l : List Int) (hl : l.length ≤ 1048576) (d : Nat) : ∀ i : Nat, i + d = l.length → Ev (fun k => laws_eqIntS.l0 k l l i) true := by
  induction d with
  | zero =>
    intro i hi
    refine Ev.step (f := fun _ => some true) (fun k => ?_) (Ev.now _)
    simp only [laws_eqIntS.l0]
    rw [if_neg (by omega)]
  | succ d ih =>
    intro i hi
    refine Ev.step (fun k => ?_) (ih (i + 1) (by omega))
    simp only [laws_eqIntS.l0, if_true]
    rw [if_pos (by omega), if_pos (by omega), w64 (by omega) (by omega), if_pos (by omega)]
    rfl
theorem eqIntS_refl (l : List Int) (hl : l.length ≤ 1048576) : Ev (fun k => laws_eqIntS.f k l l) true := by
  unfold laws_eqIntS.f
  simp only [if_true]
  exact eqIntS_l l hl l.length 0 (by omega)
theorem sz_i (l : List Int) (hl : l.length ≤ maxLen) (a : Int) (h0 : 0 ≤ a) (h1 : a ≤ 1048576) : ∃ r, laws_szIntS.f l a = some r ∧ (r < 0 ∨ (r = a - (l.length : Int) ∧ 0 ≤ r ∧ r ≤ 1048576 ∧ l.length ≤ 1048576)) := by
  unfold maxLen at hl
  unfold laws_szIntS.f
  rw [w64 (x := a - (l.length : Int)) (by omega) (by omega)]
  by_cases h : a - (l.length : Int) < 0
  · rw [if_pos h]
    exact ⟨_, rfl, .inl (by omega)⟩
  · rw [if_neg h]
    exact ⟨_, rfl, .inr ⟨rfl, by omega, by omega, by omega⟩⟩
theorem sz_e (l : List S37) (hl : l.length ≤ maxLen) (a : Int) (h0 : 0 ≤ a) (h1 : a ≤ 1048576) : ∃ r, laws_szEntryS.f l a = some r ∧ (r < 0 ∨ (r = a - (l.length : Int) ∧ 0 ≤ r ∧ r ≤ 1048576 ∧ l.length ≤ 1048576)) := by
  unfold maxLen at hl
  unfold laws_szEntryS.f
  rw [w64 (x := a - (l.length : Int)) (by omega) (by omega)]
  by_cases h : a - (l.length : Int) < 0
  · rw [if_pos h]
    exact ⟨_, rfl, .inl (by omega)⟩
  · rw [if_neg h]
    exact ⟨_, rfl, .inr ⟨rfl, by omega, by omega, by omega⟩⟩
section
variable (a0 a1 a2 a3 a4 a5 a6 a7 a8 a9 a10 a11 a12 a13 : Int) (l14 l15 : List Int) (l16 l17 : List S37) (l18 : List Int)
theorem sz_thread (b : Int) (b0 : 0 ≤ b) (b1 : b ≤ 1048576) (h14 : l14.length ≤ maxLen) (h15 : l15.length ≤ maxLen) (h16 : l16.length ≤ maxLen) (h17 : l17.length ≤ maxLen) (h18 : l18.length ≤ maxLen) :
    ∃ r, laws_szThread.f a0 a1 a2 a3 a4 a5 a6 a7 a8 a9 a10 a11 a12 a13 l14 l15 l16 l17 l18 b = some r ∧ (r < 0 ∨ (0 ≤ r ∧ r ≤ 1048576 ∧ l14.length ≤ 1048576 ∧ l15.length ≤ 1048576 ∧ l16.length ≤ 1048576 ∧ l17.length ≤ 1048576 ∧ l18.length ≤ 1048576)) := by
  unfold laws_szThread.f
  obtain ⟨r1, e1, c1⟩ := sz_i l14 h14 b b0 b1
  rw [e1, Option.bind_some]
  rcases c1 with c1 | ⟨_, p1, q1, z1⟩
  · rw [if_pos c1]; exact ⟨_, rfl, .inl (by omega)⟩
  · rw [if_neg (by omega)]
    obtain ⟨r2, e2, c2⟩ := sz_i l15 h15 r1 p1 q1
    rw [e2, Option.bind_some]
    rcases c2 with c2 | ⟨_, p2, q2, z2⟩
    · rw [if_pos c2]; exact ⟨_, rfl, .inl (by omega)⟩
    · rw [if_neg (by omega)]
      obtain ⟨r3, e3, c3⟩ := sz_e l16 h16 r2 p2 q2
      rw [e3, Option.bind_some]
      rcases c3 with c3 | ⟨_, p3, q3, z3⟩
      · rw [if_pos c3]; exact ⟨_, rfl, .inl (by omega)⟩
      · rw [if_neg (by omega)]
        obtain ⟨r4, e4, c4⟩ := sz_e l17 h17 r3 p3 q3
        rw [e4, Option.bind_some]
        rcases c4 with c4 | ⟨_, p4, q4, z4⟩
        · rw [if_pos c4]; exact ⟨_, rfl, .inl (by omega)⟩
        · rw [if_neg (by omega)]
          obtain ⟨r5, e5, c5⟩ := sz_i l18 h18 r4 p4 q4
          rw [e5, Option.bind_some]
          rcases c5 with c5 | ⟨_, p5, q5, z5⟩
          · rw [if_pos c5]; exact ⟨_, rfl, .inl (by omega)⟩
          · rw [if_neg (by omega)]
            exact ⟨_, rfl, .inr ⟨p5, q5, z1, z2, z3, z4, z5⟩⟩
theorem to_thread (h14 : l14.length ≤ 1048576) (h15 : l15.length ≤ 1048576) (h16 : l16.length ≤ 1048576) (h17 : l17.length ≤ 1048576) (h18 : l18.length ≤ 1048576) :
    Ev (fun k => laws_toThread.f k a0 a1 a2 a3 a4 a5 a6 a7 a8 a9 a10 a11 a12 a13 l14 l15 l16 l17 l18) (a0, a1, a2, a3, a4, a5, a6, a7, a8, a9, a10, a11, a12, a13, l14, l15, l16.map toE, l17.map toE, l18) := by
  unfold laws_toThread.f laws_toOp.f laws_toResult.f
  simp only [Option.bind_some]
  refine Ev.bind (toIntS l14 h14) ?_
  refine Ev.bind (toIntS l15 h15) ?_
  refine Ev.bind (toEntryS l16 h16) ?_
  refine Ev.bind (toEntryS l17 h17) ?_
  refine Ev.bind (toIntS l18 h18) ?_
  exact Ev.now _
end
section
variable (a0 a1 a2 a3 a4 a5 a6 a7 a8 a9 a10 a11 a12 a13 : Int) (l14 l15 : List Int) (l16 l17 : List S39) (l18 : List Int)
theorem eq_thread (h14 : l14.length ≤ 1048576) (h15 : l15.length ≤ 1048576) (h16 : l16.length ≤ 1048576) (h17 : l17.length ≤ 1048576) (h18 : l18.length ≤ 1048576) :
    Ev (fun k => laws_eqThread.f k a0 a1 a2 a3 a4 a5 a6 a7 a8 a9 a10 a11 a12 a13 l14 l15 l16 l17 l18 a0 a1 a2 a3 a4 a5 a6 a7 a8 a9 a10 a11 a12 a13 l14 l15 l16 l17 l18) true := by
  unfold laws_eqThread.f laws_eqOp.f laws_eqResult.f
  simp only [if_true, Option.bind_some]
  refine Ev.bind (eqIntS_refl l14 h14) ?_
  simp only [if_true]
  refine Ev.bind (eqIntS_refl l15 h15) ?_
  simp only [if_true]
  refine Ev.bind (eqEntryS_refl l16 h16) ?_
  simp only [if_true]
  refine Ev.bind (eqEntryS_refl l17 h17) ?_
  simp only [if_true]
  refine Ev.bind (eqIntS_refl l18 h18) ?_
  simp only [if_true]
  exact Ev.now _
end
def pcs : List Int := spec_l7Pcs.f.getD []
def pcNames : List ByteArray := spec_l7Names.f.getD []
def pcFind : List Int → List ByteArray → Int → ByteArray
  | p :: ps, n :: ns, a => if p = a then n else pcFind ps ns a
  | [], _, _ => ⟨#[]⟩
  | _ :: _, [], _ => ⟨#[]⟩
theorem pcs_len : pcs.length = 43 ∧ pcNames.length = 43 := ⟨rfl, rfl⟩
theorem ite_step {a p : Int} {x y : ByteArray} {o : Option ByteArray} (h : o = some y) : (if a = p then some x else o) = some (if p = a then x else y) := by
  by_cases e : a = p
  · rw [if_pos e, if_pos e.symm]
  · rw [if_neg e, if_neg (fun h => e h.symm), h]
def pcN (a : Int) : ByteArray := pcFind pcs pcNames a
theorem s_PcName_l (a : Int) (d : Nat) : ∀ i : Nat, i + d = 43 → Ev (fun k => spec_PcName.l0 k a pcs i) (pcFind (pcs.drop i) (pcNames.drop i) a) := by
  have hl := pcs_len
  induction d with
  | zero =>
    intro i hi
    rw [List.drop_eq_nil_of_le (by omega), pcFind]
    refine Ev.step (f := fun _ => some _) (fun k => ?_) (Ev.now _)
    simp only [spec_PcName.l0]
    rw [if_neg (by omega)]
  | succ d ih =>
    intro i hi
    rw [List.drop_eq_getElem_cons (show i < pcs.length by omega), List.drop_eq_getElem_cons (show i < pcNames.length by omega), pcFind]
    by_cases h : pcs[i] = a
    · rw [if_pos h]
      refine Ev.step (f := fun _ => some _) (fun k => ?_) (Ev.now _)
      simp only [spec_PcName.l0]
      rw [if_pos (by omega), if_pos (by omega), rd_eq pcs i (by omega), if_pos h, show spec_l7Names.f = some pcNames from rfl]
      simp only [Option.bind_some]
      rw [if_pos (by omega)]
      unfold rdOf
      rw [show ((i : Int)).toNat = i by omega, List.getD_eq_getElem?_getD, List.getElem?_eq_getElem (by omega)]
      rfl
    · rw [if_neg h]
      refine Ev.step (fun k => ?_) (ih (i + 1) (by omega))
      simp only [spec_PcName.l0]
      rw [if_pos (by omega), if_pos (by omega), rd_eq pcs i (by omega), if_neg h, w64 (by omega) (by omega)]
      rfl
theorem s_PcName (a : Int) : Ev (fun k => spec_PcName.f k a) (pcN a) := by
  unfold spec_PcName.f
  rw [show spec_l7Pcs.f = some pcs from rfl]
  simp only [Option.bind_some]
  exact s_PcName_l a 43 0 rfl
set_option maxRecDepth 10000 in
theorem i_PcName (a : Int) : impl_PcName.f a = some (pcN a) := by
  simp only [impl_PcName.f, pcN, pcs, pcNames, spec_l7Pcs.f, spec_l7Names.f, Option.getD_some, pcFind]
  repeat (first | rfl | refine ite_step ?_)
def bs (l : List UInt8) : ByteArray := ⟨l.toArray⟩
theorem bs_append (a b : List UInt8) : bs (a ++ b) = bs a ++ bs b := by
  apply ByteArray.ext
  rw [ByteArray.data_append]
  simp [bs]
theorem bs_nil : bs [] = ByteArray.empty := rfl
theorem bs_data (s : ByteArray) : bs s.data.toList = s := by
  apply ByteArray.ext
  simp [bs]
theorem bs_toList (l : List UInt8) : (bs l).data.toList = l := by simp [bs]
theorem bs_size (l : List UInt8) : (bs l).size = l.length := by
  show l.toArray.size = l.length
  simp
theorem bs_inj {a b : List UInt8} (h : bs a = bs b) : a = b := by rw [← bs_toList a, ← bs_toList b, h]
def dec (n : Int) : ByteArray := bs (Lib.itoa n)
def dg (m : Nat) : List UInt8 := if m = 0 then [] else Lib.decDigits m
theorem decD_step (m : Nat) : Lib.decDigits m = dg (m / 10) ++ [UInt8.ofNat (48 + m % 10)] := by
  rw [Lib.decDigits]
  unfold dg
  by_cases h : m < 10
  · rw [dif_pos h, if_pos (by omega), show m % 10 = m by omega]
    rfl
  · rw [dif_neg h, if_neg (by omega)]
theorem dg_step (m : Nat) (h : 0 < m) : dg m = dg (m / 10) ++ [UInt8.ofNat (48 + m % 10)] := by
  rw [← decD_step]
  unfold dg
  rw [if_neg (by omega)]
theorem dg_len (f : Nat) : ∀ m : Nat, m < 10 ^ f → (dg m).length ≤ f := by
  induction f with
  | zero =>
    intro m h
    have : m = 0 := by omega
    subst this
    simp [dg]
  | succ f ih =>
    intro m h
    rcases Nat.eq_zero_or_pos m with h0 | h0
    · subst h0
      simp [dg]
    · rw [dg_step m h0, List.length_append]
      have := ih (m / 10) (by rw [Nat.pow_succ] at h; omega)
      simp
      omega
theorem decD_digit (m : Nat) : ∀ c ∈ Lib.decDigits m, 48 ≤ c.toNat ∧ c.toNat ≤ 57 := by
  induction m using Nat.strongRecOn with
  | ind m ih =>
    intro c hc
    rw [decD_step] at hc
    rcases List.mem_append.1 hc with h | h
    · unfold dg at h
      by_cases h0 : m / 10 = 0
      · rw [if_pos h0] at h
        cases h
      · rw [if_neg h0] at h
        exact ih (m / 10) (by omega) c h
    · rw [List.mem_singleton] at h
      subst h
      simp only [UInt8.toNat_ofNat']
      omega
theorem decD_ne (m : Nat) : Lib.decDigits m ≠ [] := by rw [decD_step]; simp
theorem dec_neg (n : Int) (h : n < 0) : dec n = bs (45 :: Lib.decDigits n.natAbs) := by unfold dec Lib.itoa; rw [if_pos h]
theorem dec_pos (n : Int) (h : ¬ n < 0) : dec n = bs (Lib.decDigits n.toNat) := by unfold dec Lib.itoa; rw [if_neg h]
theorem dec_small (n : Int) (h : -9223372036854775808 ≤ n) (h2 : n ≤ 9223372036854775807) : (dec n).size ≤ 30 := by
  have hl : ∀ m : Nat, m ≤ 9223372036854775808 → (Lib.decDigits m).length ≤ 21 := by
    intro m hm
    rw [decD_step, List.length_append]
    have := dg_len 20 (m / 10) (by omega)
    simp
    omega
  by_cases h0 : n < 0
  · rw [dec_neg n h0, bs_size, List.length_cons]
    have := hl n.natAbs (by omega)
    omega
  · rw [dec_pos n h0, bs_size]
    have := hl n.toNat (by omega)
    omega
theorem tmod_n (m : Nat) : Int.tmod (-(m : Int)) 10 = -((m % 10 : Nat) : Int) := by
  rw [Int.neg_tmod, tmod_pos (by omega)]
  omega
theorem tdiv_n (m : Nat) : Int.tdiv (-(m : Int)) 10 = -((m / 10 : Nat) : Int) := by
  rw [Int.neg_tdiv, tdiv_pos (by omega)]
  omega
theorem s_FormatInt_z (neg : Bool) (out : ByteArray) (ho : out.size ≤ 200) : Ev (fun k => spec_FormatInt.l0 k 0 out neg) ((if neg = true then bs [45] else bs []) ++ (bs (dg 0) ++ out)) := by
  have e : bs (dg 0) ++ out = out := by
    show bs [] ++ out = out
    rw [bs_nil, ByteArray.empty_append]
  rw [e]
  refine Ev.step (f := fun _ => some _) (fun k => ?_) (Ev.now _)
  simp only [spec_FormatInt.l0, if_true]
  cases neg with
  | true =>
    rw [if_pos rfl, if_pos rfl, if_pos (by omega)]
    rfl
  | false =>
    rw [if_neg (by decide), if_neg (by decide), bs_nil, ByteArray.empty_append]
theorem s_FormatInt_l (neg : Bool) (f : Nat) : ∀ (m : Nat) (x : Int) (out : ByteArray), (x = (m : Int) ∨ x = -(m : Int)) → m < 10 ^ f → m ≤ 9223372036854775808 → out.size + f ≤ 100 →
    Ev (fun k => spec_FormatInt.l0 k x out neg) ((if neg = true then bs [45] else bs []) ++ (bs (dg m) ++ out)) := by
  induction f with
  | zero =>
    intro m x out hx hm hm2 ho
    have h0 : m = 0 := by omega
    subst h0
    have hx0 : x = 0 := by omega
    subst hx0
    exact s_FormatInt_z neg out (by omega)
  | succ f ih =>
    intro m x out hx hm hm2 ho
    rcases Nat.eq_zero_or_pos m with h0 | h0
    · subst h0
      have hx0 : x = 0 := by omega
      subst hx0
      exact s_FormatInt_z neg out (by omega)
    · rw [dg_step m h0, bs_append, ByteArray.append_assoc]
      have hsz : (bs [UInt8.ofNat (48 + m % 10)] ++ out).size = 1 + out.size := by rw [ByteArray.size_append, bs_size]; rfl
      have hn : strOfNums [((48 + (m % 10 : Nat) : Nat) : Int)] = bs [UInt8.ofNat (48 + m % 10)] := by
        unfold strOfNums bs
        rfl
      have goal : ∀ x', (x' = ((m / 10 : Nat) : Int) ∨ x' = -((m / 10 : Nat) : Int)) → Ev (fun k => spec_FormatInt.l0 k x' (bs [UInt8.ofNat (48 + m % 10)] ++ out) neg) ((if neg = true then bs [45] else bs []) ++ (bs (dg (m / 10)) ++ (bs [UInt8.ofNat (48 + m % 10)] ++ out))) :=
        fun x' hx' => ih (m / 10) x' _ hx' (by rw [Nat.pow_succ] at hm; omega) (by omega) (by rw [hsz]; omega)
      rcases hx with hx | hx
      · subst hx
        refine Ev.step (fun k => ?_) (goal ((m / 10 : Nat) : Int) (.inl rfl))
        simp only [spec_FormatInt.l0, Option.bind_some]
        rw [if_neg (by omega), tmod_pos (show (0 : Int) ≤ (m : Int) by omega), tdiv_pos (show (0 : Int) ≤ (m : Int) by omega), if_neg (by omega), w64 (x := 48 + (m : Int) % 10) (by omega) (by omega), w64 (x := (m : Int) / 10) (by omega) (by omega),
          show (48 + (m : Int) % 10) % 256 = ((48 + (m % 10 : Nat) : Nat) : Int) by omega, hn, if_pos (by rw [bs_size]; simp; omega)]
        rfl
      · subst hx
        refine Ev.step (fun k => ?_) (goal (-((m / 10 : Nat) : Int)) (.inr rfl))
        simp only [spec_FormatInt.l0, Option.bind_some]
        rw [if_neg (by omega), tmod_n, tdiv_n]
        by_cases hz : m % 10 = 0
        · rw [if_neg (by omega), w64 (x := 48 + -((m % 10 : Nat) : Int)) (by omega) (by omega), w64 (x := -((m / 10 : Nat) : Int)) (by omega) (by omega),
            show (48 + -((m % 10 : Nat) : Int)) % 256 = ((48 + (m % 10 : Nat) : Nat) : Int) by omega, hn, if_pos (by rw [bs_size]; simp; omega)]
        · rw [if_pos (by omega), w64 (x := -(-((m % 10 : Nat) : Int))) (by omega) (by omega), w64 (x := 48 + -(-((m % 10 : Nat) : Int))) (by omega) (by omega), w64 (x := -((m / 10 : Nat) : Int)) (by omega) (by omega),
            show (48 + -(-((m % 10 : Nat) : Int))) % 256 = ((48 + (m % 10 : Nat) : Nat) : Int) by omega, hn, if_pos (by rw [bs_size]; simp; omega)]
theorem s_FormatInt (n : Int) (h : -9223372036854775808 ≤ n) (h2 : n ≤ 9223372036854775807) : Ev (fun k => spec_FormatInt.f k n) (dec n) := by
  unfold spec_FormatInt.f
  by_cases h0 : n = 0
  · simp only [if_pos h0]
    subst h0
    have e : dec 0 = (⟨#[48]⟩ : ByteArray) := by
      rw [dec_pos 0 (by omega), show (0 : Int).toNat = 0 by rfl, decD_step]
      rfl
    rw [e]
    exact Ev.now _
  · simp only [if_neg h0]
    have key := s_FormatInt_l (decide (n < 0)) 20 n.natAbs n ⟨#[]⟩ (by omega) (by omega) (by omega) (by simp [ByteArray.size])
    have e : (if decide (n < 0) = true then bs [45] else bs []) ++ (bs (dg n.natAbs) ++ (⟨#[]⟩ : ByteArray)) = dec n := by
      rw [show (⟨#[]⟩ : ByteArray) = bs [] from rfl, ← bs_append, List.append_nil]
      have hd : dg n.natAbs = Lib.decDigits n.natAbs := by unfold dg; rw [if_neg (by omega)]
      by_cases hn : n < 0
      · rw [if_pos (by simpa using hn), dec_neg n hn, ← bs_append, hd]
        rfl
      · rw [if_neg (by simpa using hn), dec_pos n hn, ← bs_append, hd, show n.natAbs = n.toNat by omega]
        rfl
    rw [e] at key
    exact key
theorem i_FormatInt (n : Int) (h : -9223372036854775808 ≤ n) (h2 : n ≤ 9223372036854775807) : impl_FormatInt.f n = some (dec n) := by
  unfold impl_FormatInt.f strconv_Itoa.f
  rw [if_pos ⟨h, h2⟩]
  rfl
theorem lsz (l : List UInt8) : (ByteArray.mk l.toArray).size = l.length := by simp [ByteArray.size]
theorem lsz0 : (⟨#[]⟩ : ByteArray).size = 0 := rfl
theorem eapp (s : ByteArray) : (⟨#[]⟩ : ByteArray) ++ s = s := ByteArray.empty_append
theorem appe (s : ByteArray) : s ++ (⟨#[]⟩ : ByteArray) = s := ByteArray.append_empty
theorem dec30 {n : Int} (h : -9223372036854775808 ≤ n) (h2 : n ≤ 9223372036854775807) : (dec n).size ≤ 30 := dec_small n h h2
theorem Ev_if {α : Type} {c : Prop} [Decidable c] {f g : Nat → Option α} {r : α} (hc : c) (h : Ev f r) : Ev (fun n => if c then f n else g n) r := by
  simp only [if_pos hc]
  exact h
theorem ifle {α : Type} {n : Nat} {x y : α} (h : n ≤ 9223372036854775807) : (if n ≤ 9223372036854775807 then x else y) = x := if_pos h
theorem strOfNums_nil : strOfNums [] = ByteArray.empty := rfl
theorem strOfNums_append (xs ys : List Int) : strOfNums (xs ++ ys) = strOfNums xs ++ strOfNums ys := by
  apply ByteArray.ext
  rw [ByteArray.data_append]
  simp [strOfNums]
theorem app_nil (s : ByteArray) : s ++ (⟨#[]⟩ : ByteArray) = s := ByteArray.append_empty
def bl (s : ByteArray) : List Int := s.data.toList.map fun b => (b.toNat : Int)
theorem bl_length (s : ByteArray) : (bl s).length = s.size := by
  unfold bl
  rw [List.length_map, Array.length_toList]
  rfl
theorem bl_append (a b : ByteArray) : bl (a ++ b) = bl a ++ bl b := by simp [bl]
theorem bl_nil : bl ⟨#[]⟩ = [] := rfl
theorem bl_range (s : ByteArray) : ∀ x ∈ bl s, 0 ≤ x ∧ x ≤ 255 := by
  intro x hx
  obtain ⟨b, _, rfl⟩ := List.mem_map.1 hx
  have := b.toNat_lt
  omega
theorem strOfNums_bl (s : ByteArray) : strOfNums (bl s) = s := by
  apply ByteArray.ext
  unfold strOfNums bl
  rw [List.map_map]
  have e : ((fun n : Int => UInt8.ofNat n.toNat) ∘ fun b : UInt8 => (b.toNat : Int)) = id := by
    funext b
    simp
  rw [e, List.map_id]
theorem bl_inj {a b : ByteArray} (h : bl a = bl b) : a = b := by rw [← strOfNums_bl a, ← strOfNums_bl b, h]
theorem bl_strOfNums (xs : List Int) (h : ∀ x ∈ xs, 0 ≤ x ∧ x ≤ 255) : bl (strOfNums xs) = xs := by
  unfold bl strOfNums
  rw [List.map_map]
  conv => rhs; rw [← List.map_id xs]
  apply List.map_congr_left
  intro x hx
  have := h x hx
  simp only [Function.comp, id, UInt8.toNat_ofNat']
  omega
theorem bl_extract0 (s : ByteArray) (k : Nat) : bl (s.extract 0 k) = (bl s).take k := by
  simp [bl, ByteArray.data_extract, Array.toList_extract, List.extract_eq_take_drop]
theorem bl_extract (s : ByteArray) (i j : Nat) : bl (s.extract i j) = ((bl s).drop i).take (j - i) := by
  simp [bl, ByteArray.data_extract, Array.toList_extract, List.extract_eq_take_drop]
theorem bt_bl (s : ByteArray) (i : Int) : bt s i = (bl s).getD i.toNat 0 := by
  unfold bt bl
  by_cases h : i.toNat < s.size
  · rw [dif_pos h, List.getD_eq_getElem?_getD, List.getElem?_map, List.getElem?_eq_getElem (show i.toNat < s.data.toList.length by rw [Array.length_toList]; exact h)]
    rfl
  · rw [dif_neg h, List.getD_eq_getElem?_getD, List.getElem?_eq_none (by rw [List.length_map, Array.length_toList]; exact Nat.le_of_not_lt h)]
    rfl
theorem toList_iff {a b : ByteArray} : a.toList = b.toList ↔ a = b := by
  constructor
  · intro h
    rw [ByteArray.toList_eq, ByteArray.toList_eq] at h
    apply ByteArray.ext
    exact Array.toList_inj.1 h
  · intro h
    rw [h]

theorem pcFind_size (a : Int) : ∀ (ps : List Int) (ns : List ByteArray), (∀ n ∈ ns, n.size ≤ 40) → (pcFind ps ns a).size ≤ 40
  | [], _, _ => by simp [pcFind, ByteArray.size]
  | _ :: _, [], _ => by simp [pcFind, ByteArray.size]
  | p :: ps, n :: ns, h => by
    rw [pcFind]
    split
    · exact h n (by simp)
    · exact pcFind_size a ps ns (fun x hx => h x (by simp [hx]))
theorem pcN_size (a : Int) : (pcN a).size ≤ 40 := pcFind_size a pcs pcNames (by decide)
theorem join2 (x y : List UInt8) (xs : List (List UInt8)) (sep : List UInt8) : Lib.join (x :: y :: xs) sep = x ++ sep ++ Lib.join (y :: xs) sep := by
  unfold Lib.join
  first | rfl | simp [List.intercalate, List.intersperse]
theorem join1 (x : List UInt8) (sep : List UInt8) : Lib.join [x] sep = x := by
  unfold Lib.join
  first | rfl | simp [List.intercalate, List.intersperse]
def ftail (n1 n2 n3 n4 : Int) (p : ByteArray) : ByteArray := (((((((p ++ (⟨#[32, 102, 114, 101, 101, 32]⟩ : ByteArray)) ++ dec n1) ++ (⟨#[32, 98, 117, 102, 102, 101, 114, 32]⟩ : ByteArray)) ++ dec n2) ++ (⟨#[32, 119, 111, 114, 107, 32]⟩ : ByteArray)) ++ dec n3) ++ (⟨#[32, 108, 105, 109, 98, 111, 32]⟩ : ByteArray)) ++ dec n4
section
variable (a0 a1 a2 a3 a4 a5 a6 a7 a8 a9 a10 a11 a12 a13 : Int) (l14 l15 : List Int) (l16 l17 : List S39) (l18 : List Int) (h15 : l15.length ≤ 1048576) (h16 : l16.length ≤ 1048576) (h17 : l17.length ≤ 1048576) (h18 : l18.length ≤ 1048576)
include h15 h16 h17 h18
set_option maxHeartbeats 2000000 in
theorem s_ft_j (p : ByteArray) (hp : p.size ≤ 200) : Ev (fun k => spec_FormatThread.j0 k p a0 a1 a2 a3 a4 a5 a6 a7 a8 a9 a10 a11 a12 a13 l14 l15 l16 l17 l18) (ftail l15.length l16.length l17.length l18.length p) := by
  have b1 : (⟨#[32, 102, 114, 101, 101, 32]⟩ : ByteArray).size = 6 := rfl
  have b2 : (⟨#[32, 98, 117, 102, 102, 101, 114, 32]⟩ : ByteArray).size = 8 := rfl
  have b3 : (⟨#[32, 119, 111, 114, 107, 32]⟩ : ByteArray).size = 6 := rfl
  have b4 : (⟨#[32, 108, 105, 109, 98, 111, 32]⟩ : ByteArray).size = 7 := rfl
  have d1 := dec30 (n := (l15.length : Int)) (by omega) (by omega)
  have d2 := dec30 (n := (l16.length : Int)) (by omega) (by omega)
  have d3 := dec30 (n := (l17.length : Int)) (by omega) (by omega)
  have d4 := dec30 (n := (l18.length : Int)) (by omega) (by omega)
  unfold ftail
  refine Ev.step (fun k => by rw [spec_FormatThread.j0]) ?_
  simp (disch := omega) only [ifle]
  refine Ev.bind (s_FormatInt _ (by omega) (by omega)) ?_
  simp (disch := omega) only [ifle, ByteArray.size_append, b1, b2, b3, b4]
  refine Ev.bind (s_FormatInt _ (by omega) (by omega)) ?_
  simp (disch := omega) only [ifle, ByteArray.size_append, b1, b2, b3, b4]
  refine Ev.bind (s_FormatInt _ (by omega) (by omega)) ?_
  simp (disch := omega) only [ifle, ByteArray.size_append, b1, b2, b3, b4]
  refine Ev.bind (s_FormatInt _ (by omega) (by omega)) ?_
  simp (disch := omega) only [ifle, ByteArray.size_append, b1, b2, b3, b4]
  exact Ev.now _
theorem i_ft_j (p : ByteArray) (hp : p.size ≤ 200) (L : List ByteArray) (hL : L.length ≤ 3) (hj : ∀ (y : ByteArray) (r : List ByteArray), Lib.join ((L ++ y :: r).map (·.data.toList)) [32] = p.data.toList ++ [32] ++ Lib.join ((y :: r).map (·.data.toList)) [32]) :
    Ev (fun k => impl_FormatThread.j0 k L a0 a1 a2 a3 a4 a5 a6 a7 a8 a9 a10 a11 a12 a13 l14 l15 l16 l17 l18) (ftail l15.length l16.length l17.length l18.length p) := by
  have b1 : (⟨#[32, 102, 114, 101, 101, 32]⟩ : ByteArray).size = 6 := rfl
  have b2 : (⟨#[32, 98, 117, 102, 102, 101, 114, 32]⟩ : ByteArray).size = 8 := rfl
  have b3 : (⟨#[32, 119, 111, 114, 107, 32]⟩ : ByteArray).size = 6 := rfl
  have b4 : (⟨#[32, 108, 105, 109, 98, 111, 32]⟩ : ByteArray).size = 7 := rfl
  have d1 := dec30 (n := (l15.length : Int)) (by omega) (by omega)
  have d2 := dec30 (n := (l16.length : Int)) (by omega) (by omega)
  have d3 := dec30 (n := (l17.length : Int)) (by omega) (by omega)
  have d4 := dec30 (n := (l18.length : Int)) (by omega) (by omega)
  have key : Lib.join ((L ++ [(⟨#[102, 114, 101, 101]⟩ : ByteArray), dec l15.length, (⟨#[98, 117, 102, 102, 101, 114]⟩ : ByteArray), dec l16.length, (⟨#[119, 111, 114, 107]⟩ : ByteArray), dec l17.length, (⟨#[108, 105, 109, 98, 111]⟩ : ByteArray), dec l18.length]).map (·.data.toList)) (⟨#[32]⟩ : ByteArray).data.toList = (ftail l15.length l16.length l17.length l18.length p).data.toList := by
    have e32 : (⟨#[32]⟩ : ByteArray).data.toList = [32] := rfl
    rw [e32, hj]
    unfold ftail
    simp only [List.map_cons, List.map_nil, join2, join1, ByteArray.data_append, Array.toList_append, List.append_assoc]
    rfl
  have hsz : (ftail l15.length l16.length l17.length l18.length p).data.toList.length ≤ 1000 := by
    rw [Array.length_toList]
    show (ftail l15.length l16.length l17.length l18.length p).size ≤ 1000
    unfold ftail
    simp only [ByteArray.size_append, b1, b2, b3, b4]
    omega
  refine Ev.step (f := fun _ => some (ftail l15.length l16.length l17.length l18.length p)) (fun k => ?_) (Ev.now _)
  simp only [impl_FormatThread.j0, i_FormatInt _ (show -9223372036854775808 ≤ (l15.length : Int) by omega) (by omega), i_FormatInt _ (show -9223372036854775808 ≤ (l16.length : Int) by omega) (by omega), i_FormatInt _ (show -9223372036854775808 ≤ (l17.length : Int) by omega) (by omega), i_FormatInt _ (show -9223372036854775808 ≤ (l18.length : Int) by omega) (by omega), Option.bind_some]
  rw [if_pos (by simp; omega)]
  unfold strings_Join.f
  rw [key, if_pos ⟨by simp; omega, by omega⟩]
  exact congrArg some (bs_data _)
def fthr : ByteArray := if pcN a0 = ⟨#[]⟩ then ⟨#[]⟩ else ftail l15.length l16.length l17.length l18.length (if a6 > 0 then (pcN a0 ++ (⟨#[32, 97, 116, 32]⟩ : ByteArray)) ++ dec a6 else pcN a0)
end
theorem nilb (s : ByteArray) : (s.toList != ([] : List UInt8)) = decide (s ≠ ⟨#[]⟩) := by
  have e : (⟨#[]⟩ : ByteArray).toList = ([] : List UInt8) := by rw [ByteArray.toList_eq]
  by_cases h : s = ⟨#[]⟩
  · rw [h, e]
    simp
  · rw [decide_eq_true h]
    refine bne_iff_ne.2 (fun x => h ?_)
    exact toList_iff.1 (x.trans e.symm)
section
variable (a0 a1 a2 a3 a4 a5 a6 a7 a8 a9 a10 a11 a12 a13 : Int) (l14 l15 : List Int) (l16 l17 : List S39) (l18 : List Int) (h15 : l15.length ≤ 1048576) (h16 : l16.length ≤ 1048576) (h17 : l17.length ≤ 1048576) (h18 : l18.length ≤ 1048576) (m0 : -9223372036854775808 ≤ a6) (m1 : a6 ≤ 9223372036854775807)
include h15 h16 h17 h18 m0 m1
theorem s_ft : Ev (fun k => spec_FormatThread.f k a0 a1 a2 a3 a4 a5 a6 a7 a8 a9 a10 a11 a12 a13 l14 l15 l16 l17 l18) (fthr a0 a6 l15 l16 l17 l18) := by
  have hz := pcN_size a0
  have b5 : (⟨#[32, 97, 116, 32]⟩ : ByteArray).size = 4 := rfl
  have d6 := dec30 (n := a6) m0 m1
  unfold spec_FormatThread.f spec_IsPc.f
  have hpc : Ev (fun k => (spec_PcName.f k a0).bind fun t127 => some (t127.toList != ([] : List UInt8))) (decide (pcN a0 ≠ ⟨#[]⟩)) := by
    refine Ev.bind (s_PcName a0) ?_
    simp only [nilb]
    exact Ev.now _
  refine Ev.bind hpc ?_
  unfold fthr
  by_cases h : pcN a0 = ⟨#[]⟩
  · simp only [h, ne_eq, not_true_eq_false, decide_false, Bool.false_eq_true, if_false, if_true]
    exact Ev.now _
  · simp only [if_neg h, ne_eq, h, not_false_eq_true, decide_true, if_true]
    refine Ev.bind (s_PcName a0) ?_
    by_cases h6 : a6 > 0
    · simp only [if_pos h6]
      simp (disch := omega) only [ifle]
      refine Ev.bind (s_FormatInt a6 m0 m1) ?_
      simp (disch := omega) only [ifle, ByteArray.size_append, b5]
      exact s_ft_j a0 a1 a2 a3 a4 a5 a6 a7 a8 a9 a10 a11 a12 a13 l14 l15 l16 l17 l18 h15 h16 h17 h18 _ (by simp only [ByteArray.size_append, b5]; omega)
    · simp only [if_neg h6]
      exact s_ft_j a0 a1 a2 a3 a4 a5 a6 a7 a8 a9 a10 a11 a12 a13 l14 l15 l16 l17 l18 h15 h16 h17 h18 _ (by omega)
theorem i_ft : Ev (fun k => impl_FormatThread.f k a0 a1 a2 a3 a4 a5 a6 a7 a8 a9 a10 a11 a12 a13 l14 l15 l16 l17 l18) (fthr a0 a6 l15 l16 l17 l18) := by
  have hz := pcN_size a0
  have b5 : (⟨#[32, 97, 116, 32]⟩ : ByteArray).size = 4 := rfl
  have d6 := dec30 (n := a6) m0 m1
  unfold impl_FormatThread.f impl_IsPc.f fthr
  simp only [i_PcName, Option.bind_some, nilb]
  by_cases h : pcN a0 = ⟨#[]⟩
  · simp only [h, ne_eq, not_true_eq_false, decide_false, Bool.false_eq_true, if_false, if_true]
    exact Ev.now _
  · simp only [if_neg h, ne_eq, h, not_false_eq_true, decide_true, if_true]
    by_cases h6 : a6 > 0
    · simp only [if_pos h6, i_FormatInt a6 m0 m1, Option.bind_some]
      simp only [if_pos (show ([pcN a0] : List ByteArray).length + ([(⟨#[97, 116]⟩ : ByteArray), dec a6] : List ByteArray).length < 8796093022208 by simp)]
      refine i_ft_j a0 a1 a2 a3 a4 a5 a6 a7 a8 a9 a10 a11 a12 a13 l14 l15 l16 l17 l18 h15 h16 h17 h18 _ (by simp only [ByteArray.size_append, b5]; omega) _ (by simp) (fun y r => ?_)
      simp only [List.cons_append, List.nil_append, List.map_cons, join2, ByteArray.data_append, Array.toList_append, List.append_assoc]
    · simp only [if_neg h6]
      refine i_ft_j a0 a1 a2 a3 a4 a5 a6 a7 a8 a9 a10 a11 a12 a13 l14 l15 l16 l17 l18 h15 h16 h17 h18 _ (by omega) _ (by simp) (fun y r => ?_)
      simp only [List.cons_append, List.nil_append, List.map_cons, join2]
end
theorem FnExactFormatThread : ∀ (a0 a1 a2 a3 a4 a5 a6 a7 a8 a9 a10 a11 a12 a13 : Int) (l14 l15 : List Int) (l16 l17 : List S37) (l18 : List Int), (Lit.int .i64 a0).wf = true → (Lit.int .i64 a1).wf = true → (Lit.int .i64 a2).wf = true → (Lit.int .i64 a3).wf = true → (Lit.int .i64 a4).wf = true → (Lit.int .i64 a5).wf = true → (Lit.int .i64 a6).wf = true → (Lit.int .i64 a7).wf = true → (Lit.int .i64 a8).wf = true → (Lit.int .i64 a9).wf = true → (Lit.int .i64 a10).wf = true → (Lit.int .i64 a11).wf = true → (Lit.int .i64 a12).wf = true → (Lit.int .i64 a13).wf = true →
    l14.length ≤ maxLen → (∀ x ∈ l14, (Lit.int .i64 x).wf = true) → l15.length ≤ maxLen → (∀ x ∈ l15, (Lit.int .i64 x).wf = true) → l16.length ≤ maxLen → (∀ x ∈ l16, (Lit.int .i64 x.f0).wf = true ∧ (Lit.int .i64 x.f1).wf = true ∧ (Lit.int .i64 x.f2).wf = true ∧ (Lit.int .i64 x.f3).wf = true) → l17.length ≤ maxLen → (∀ x ∈ l17, (Lit.int .i64 x.f0).wf = true ∧ (Lit.int .i64 x.f1).wf = true ∧ (Lit.int .i64 x.f2).wf = true ∧ (Lit.int .i64 x.f3).wf = true) → l18.length ≤ maxLen → (∀ x ∈ l18, (Lit.int .i64 x).wf = true) →
    ∃ k, laws_FnExactFormatThread.f k a0 a1 a2 a3 a4 a5 a6 a7 a8 a9 a10 a11 a12 a13 l14 l15 l16 l17 l18 = some true := by
  intro a0 a1 a2 a3 a4 a5 a6 a7 a8 a9 a10 a11 a12 a13 l14 l15 l16 l17 l18 _ _ _ _ _ _ w6 _ _ _ _ _ _ _ h14 _ h15 _ h16 _ h17 _ h18 _
  have hb := bounds_i64 w6
  unfold laws_FnExactFormatThread.f
  obtain ⟨r, hr, hc⟩ := sz_thread a0 a1 a2 a3 a4 a5 a6 a7 a8 a9 a10 a11 a12 a13 l14 l15 l16 l17 l18 1048576 (by omega) (by omega) h14 h15 h16 h17 h18
  simp only [hr, Option.bind_some]
  rcases hc with hc | ⟨h0, _, z14, z15, z16, z17, z18⟩
  · exact ⟨0, by rw [if_pos hc]⟩
  · simp only [if_neg (show ¬ r < 0 by omega)]
    have ht := to_thread a0 a1 a2 a3 a4 a5 a6 a7 a8 a9 a10 a11 a12 a13 l14 l15 l16 l17 l18 z14 z15 z16 z17 z18
    have m16 : (l16.map toE).length ≤ 1048576 := by simpa using z16
    have m17 : (l17.map toE).length ≤ 1048576 := by simpa using z17
    refine (Ev.bind ht ?_).rounds
    refine Ev.bind (s_ft a0 a1 a2 a3 a4 a5 a6 a7 a8 a9 a10 a11 a12 a13 l14 l15 (l16.map toE) (l17.map toE) l18 z15 m16 m17 z18 hb.1 hb.2) ?_
    refine Ev.bind ht ?_
    refine Ev.bind (i_ft a0 a1 a2 a3 a4 a5 a6 a7 a8 a9 a10 a11 a12 a13 l14 l15 (l16.map toE) (l17.map toE) l18 z15 m16 m17 z18 hb.1 hb.2) ?_
    simp only [if_true]
    refine Ev.bind ht ?_
    refine Ev.bind (eq_thread a0 a1 a2 a3 a4 a5 a6 a7 a8 a9 a10 a11 a12 a13 l14 l15 (l16.map toE) (l17.map toE) l18 z14 z15 m16 m17 z18) ?_
    simp only [if_true]
    exact Ev.now _

end Go.Proofs.YtbenihcaleiacaaDoor.Pure
