/- PROVED: the statement SessionNone: for every input that the row speaks of, the call of buttresslaw24.SessionNone returns true, and its arguments read as before (pulls that aren't there). CONDITIONS: those of the given row and card: the listed package-level variables hold what the program's text lays. -/
import Derived.Test.YtpdceilhgaladaaGreatDoorFin
import Derived.Test.YtpdceilhgaladaaGreatDoorSessionNone
namespace Go.Proofs.YtpdceilhgaladaaGreatDoor.SessionNoneP
open Go.ChangeShapes Go.WideShapes Go.ChangeAt Go.RowKit Go.Vc Go.Vc.Sha Go.Proofs.YtpdceilhgaladaaGreatDoor Go.Proofs.YtpdceilhgaladaaGreatDoor.Fin
abbrev fn := 3
set_option maxRecDepth 100000 in
theorem contract (H : Type) (enc : TypeId × Value → H) (W : World) (base : Nat) (args : Array Value) (ds gs : List (DataW H)) (before : List MemPlace)
    (hval : ∀ (j : Nat) t v, Tryz.f3.params[j]? = some t → args[j]? = some v → Value.okWide Tryz.prog W .any base t v)
    (hW : DataW.Whole enc Tryz.prog Tryz.f3.params.toList Rows.sessionNoneSpec.vars false W args.toList ds gs before) (hL : laidMetH Tryz.prog Rows.sessionNoneRow.laid W) :
    Calls Tryz.prog fn args W fun e W' => ∃ v, e = .returned v ∧ Rows.sessionNoneSpec.post enc Tryz.prog Tryz.f3 false true false false W args v W' := by
  have hW' := hW
  obtain ⟨p, q, hA0, hV, rfl, hfz, hnd⟩ := hW
  have hA : DataW.TrodAll enc Tryz.prog W 0 (fun _ => true) true Tryz.f3.params.toList args.toList ds p := hA0
  rw [Tryz.params3] at hA hval
  obtain ⟨v0, vs0, d0, ds0, p0, q0, hargs, rfl, rfl, h0, r0⟩ := trodAll_cons hA
  obtain ⟨v1, vs1, d1, ds1, p1, q1, rfl, rfl, rfl, h1, r1⟩ := trodAll_cons r0
  obtain ⟨v2, vs2, d2, ds2, p2, q2, rfl, rfl, rfl, h2, r2⟩ := trodAll_cons r1
  obtain ⟨v3, vs3, d3, ds3, p3, q3, rfl, rfl, rfl, h3, r3⟩ := trodAll_cons r2
  obtain ⟨rfl, rfl, rfl⟩ := trodAll_nil r3
  obtain rfl : args = #[v0, v1, v2, v3] := by cases args; simp_all
  obtain ⟨rfl, rfl⟩ := trodVars_none hV
  obtain ⟨k0, k1, k2, k3⟩ := ok4 hval
  obtain ⟨n0, rfl⟩ := okWide_int Tryz.underlying3 k0
  obtain ⟨n1, rfl⟩ := okWide_int Tryz.underlying3 k1
  obtain ⟨s2, rfl⟩ := okWide_string Tryz.underlying9 k2
  obtain ⟨f2, h2⟩ := h2
  obtain ⟨l2, hl2, hll2⟩ := open_str Tryz.underlying9 h2
  have he2 : Value.string s2 = str l2 := by simpa [Value.cells] using hl2
  rw [he2] at hW' ⊢
  obtain ⟨cs3, rfl, hsz3⟩ := okWide_struct Tryz.underlying24 k3
  obtain ⟨f3, h3⟩ := h3
  obtain ⟨r3, sv3, gv3, hc3, hr3⟩ := open_root h3
  obtain rfl : cs3 = (r3.cells sv3 gv3).toArray := by apply Array.ext'; simpa [Value.cells] using hc3
  have hk : Laid W := laid_of hL (by kernel_rfl) (by kernel_rfl)
  refine Calls.mono (R := Ret fun v w' => v = .bool true ∧ Ext W w') ?_ fun e W' he => ?_
  · exact Law24.sessionNone_c hk n0 n1 l2 hll2 hr3
  · obtain ⟨r, rfl, rfl, hx⟩ := he
    exact ⟨_, rfl, post_true laidOut (by kernel_rfl) rfl (by kernel_rfl) Tryz.underlying4 ⟨rfl, rfl, rfl⟩ hW' hx⟩
theorem laid_met (os : Os) : laidMet Tryz.prog Rows.sessionNoneRow.laid ((laidWorld os).forCall (fun _ _ => 0) ⟨#[], #[.int .i64 0, .int .i64 0, .string ⟨#[]⟩, .agg #[.int .i64 0, .int .i64 0, .int .i64 0, .slice none 0 0, .slice none 0 0]], []⟩).memory :=
  laidMet_of_run' 8 (by kernel_rfl) (by kernel_rfl)
theorem reads (os : Os) {H : Type} (enc : TypeId × Value → H) : ∃ places, DataW.whole enc Tryz.prog ((laidWorld os).forCall (fun _ _ => 0) ⟨#[], #[.int .i64 0, .int .i64 0, .string ⟨#[]⟩, .agg #[.int .i64 0, .int .i64 0, .int .i64 0, .slice none 0 0, .slice none 0 0]], []⟩).memory Tryz.f3.params.toList Rows.sessionNoneSpec.vars false (#[.int .i64 0, .int .i64 0, .string ⟨#[]⟩, .agg #[.int .i64 0, .int .i64 0, .int .i64 0, .slice none 0 0, .slice none 0 0]] : Array Value).toList 8 = some ([.lit (.int .i64 0), .lit (.int .i64 0), .lit (.string []), .agg [.lit (.int .i64 0), .lit (.int .i64 0), .lit (.int .i64 0), .nil, .nil]], [], places) :=
  ⟨[], by kernel_rfl⟩
set_option maxRecDepth 100000 in
theorem lifted (os : Os) (started : os.Started) (H : Type) (enc : TypeId × Value → H) (F : Stop.Interp) :
    ReturnsInHanded {} Tryz.checked os fn .any ((OpenSpec.ofChange Rows.sessionNoneSpec).preRow enc Tryz.prog Tryz.f3 Rows.sessionNoneRow.domain false Rows.sessionNoneRow.laid) (((OpenSpec.ofChange Rows.sessionNoneSpec).at F).post enc Tryz.prog Tryz.f3 false true false false) := by
  obtain ⟨places, hx⟩ := reads os enc
  refine returnsInHanded_of_row (C := Tryz.checked) (s := OpenSpec.ofChange Rows.sessionNoneSpec) own started (by kernel_rfl) Tryz.func3
    (witness_row_at (enc := enc) (C := Tryz.checked) false (laidWorld os) #[.int .i64 0, .int .i64 0, .string ⟨#[]⟩, .agg #[.int .i64 0, .int .i64 0, .int .i64 0, .slice none 0 0, .slice none 0 0]] rfl (by kernel_rfl) (by kernel_rfl) (by kernel_rfl)
      (OpenSpec.preRow_of_cond 8 hx (by kernel_rfl) (fun k hk => by cases hk) (by kernel_rfl) (laid_met os))) ?_
  intro W base args ds gs before hval hW _ _ _ hL _ _
  exact contract H enc W base args ds gs before hval hW hL
theorem said : Rows.SessionNoneSaid :=
  OpenClaim.holds_of_cond fn Tryz.f3 rfl rfl rfl rfl rfl rfl rfl ⟨rfl, rfl, rfl, rfl, rfl⟩ rfl rfl rfl rfl rfl (by kernel_rfl) Tryz.func3 (by kernel_rfl)
    (of_decide_eq_true (by kernel_rfl)) (by unfold Func.isWrapper; first | (rw [if_pos (by decide +kernel)]; kernel_rfl) | (rw [if_neg (by decide +kernel)]; exact ⟨rfl, rfl⟩))
    (fun os started H enc _ F => by rw [OpenClaim.pre_eq_preRow]; exact lifted os started H enc F)
/-- No parameter wants a stand-in; the program's own looks: what the card asks. -/
theorem plain (f : FuncId) (g : Func) (hf : Tryz.pinned.checked.prog.funcNamed "buttress/buttresslaw24.SessionNone" = some f) (hfn : Tryz.pinned.checked.prog.funcs[f]? = some g) :
    true = Tryz.pinned.checked.prog.looks [] ∧ ∀ (j : Nat) t, g.params[j]? = some t → Tryz.pinned.checked.prog.wantsStandIn t = false := by
  obtain rfl : f = fn := Option.some.inj ((show Tryz.prog.funcNamed "buttress/buttresslaw24.SessionNone" = some fn by kernel_rfl).symm.trans hf) |>.symm
  obtain rfl : g = Tryz.f3 := (Option.some.inj (Tryz.func3.symm.trans hfn)).symm
  refine ⟨by kernel_rfl, fun j t ht => ?_⟩
  have hall : (Tryz.f3.params.toList.all fun t => !(Tryz.prog.wantsStandIn t)) = true := by kernel_rfl
  have := List.all_eq_true.1 hall t (by simpa using Array.mem_of_getElem? ht)
  exact (by simpa using this : Tryz.prog.wantsStandIn t = false)
/-- THE CARD. -/
theorem card : Rows.SessionNoneCardSaid :=
  Claim7.holds_tied_plain_at .later [] _ _ _ _ said (fun _ h => by cases h) (by kernel_rfl) (fun _ h => by cases h) sessionNone_row_tie rfl ⟨rfl, rfl⟩ (by kernel_rfl) rfl plain (by kernel_rfl)
end Go.Proofs.YtpdceilhgaladaaGreatDoor.SessionNoneP
