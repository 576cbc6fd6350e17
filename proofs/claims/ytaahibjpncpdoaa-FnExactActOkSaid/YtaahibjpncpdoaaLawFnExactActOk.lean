/- The law FnExactActOk of the given program is proved: for every input of its types that can be read, the call returns true and leaves its arguments as they were. No further condition. -/
import Derived.Test.YtaahibjpncpdoaaRows
import Derived.Test.YtaahibjpncpdoaaPFnExactActOkx1
import Derived.Test.YtaahibjpncpdoaaPureFnExactActOk
import Derived.Test.YtaahibjpncpdoaaOpen
import Derived.WalkKit
import Derived.ProofKit
import Derived.OpenShut
import Derived.ShutString
import Derived.ChangeOld
import Derived.Below
import Derived.SizedLaws
import Derived.Test.YtaahibjpncpdoaaWSized
namespace Go.Proofs.Ytaahibjpncpdoaa.PFnExactActOk
open Go.RowKit Go.ChangeShapes Go.WideShapes Go.Proofs.YtaahibjpncpdoaaW.PrintWords Go.Proofs.YtaahibjpncpdoaaW.Opens
set_option linter.unusedVariables false
theorem opens30 : Opens Try.prog 30 k30 g30 := Opens.iso (Opens.struct (OpensF.cons (Opens.int Try.underlying3) rfl (by kernel_rfl) (OpensF.cons (Opens.int Try.underlying3) rfl (by kernel_rfl) (OpensF.one (Opens.int Try.underlying3) rfl (by kernel_rfl)))) Try.underlying30 (by kernel_rfl)) (fun x : S30 => (x.f0, x.f1, x.f2)) (fun a => ⟨a.1, a.2.1, a.2.2⟩) (fun _ => rfl)
end Go.Proofs.Ytaahibjpncpdoaa.PFnExactActOk
namespace Go.Proofs.Ytaahibjpncpdoaa.fnExactActOk
open Go.ChangeShapes Go.WideShapes Go.ChangeAt Go.RowKit Go.Proofs.Ytaahibjpncpdoaa.PFnExactActOk Go.Proofs.YtaahibjpncpdoaaW.Opens
open Go.Proofs.YtaahibjpncpdoaaW
open Go.Proofs.YtaahibjpncpdoaaW.PrintWords (Kd Kd.C)
open Go.ChangeMaps (open_string shut_string)
set_option linter.unusedVariables false
theorem own : ownKnob Try.prog.godebug = none := by kernel_rfl
theorem laidOut : laidOutB Try.prog = true := by kernel_rfl
set_option maxRecDepth 100000 in
theorem lifted (os : Os) (started : os.Started) (H : Type) (enc : TypeId × Value → H) :
    ReturnsInHanded {} Try.checked os 5 .any (Rows.fnExactActOkSpec.pre6 enc Try.prog Try.f5 Rows.fnExactActOkRow.domain false) (Rows.fnExactActOkSpec.post enc Try.prog Try.f5 false true false false) := by
  refine returnsInHanded_of_change_sized (C := Try.checked) own started (by kernel_rfl) Try.func5
    (ChangeSpec.witness6 (enc := enc) (C := Try.checked) false ⟨#[], #[.agg #[.int .i64 0, .int .i64 0, .int .i64 0]], []⟩ 8 (by kernel_rfl) (by kernel_rfl) (by kernel_rfl) (by kernel_rfl)) ?_
  intro W base args ds gs before hval0 hW hcnd hsz0 _
  have hsz : (DataW.weightsEach Try.prog (Try.f5.params.toList ++ Rows.fnExactActOkSpec.plain.varTypes Try.prog) (ds ++ gs)).all (· ≤ reachBytes) = true := hsz0
  have hval : ∀ (j : Nat) t v, Try.f5.params[j]? = some t → args[j]? = some v → Value.okWide Try.prog W .any base t v := hval0
  have hW' := hW
  obtain ⟨p, q, hA0, hV, rfl, hfz, hnd⟩ := hW
  have hA : DataW.TrodAll enc Try.prog W 0 (fun _ => true) true Try.f5.params.toList args.toList ds p := hA0
  rw [Try.params5] at hA hval hsz
  obtain ⟨v0, vs0, d0, ds0, p0, q0, hargs, rfl, rfl, h0, r0⟩ := trodAll_cons hA
  obtain ⟨rfl, rfl, rfl⟩ := trodAll_nil r0
  obtain rfl : args = #[v0] := by cases args; simp_all
  obtain ⟨rfl, rfl⟩ := trodVars_none hV
  obtain ⟨cs0, rfl, hs0⟩ := okWide_struct Try.underlying30 (hval 0 30 v0 rfl rfl)
  have k0 := h0
  have lt0 : ∀ x ∈ p0, x.block < W.heap.size := by obtain ⟨m, hm⟩ := k0; exact DataW.trod_lt m _ _ _ hm
  obtain ⟨fuel0, hf0⟩ := h0
  obtain ⟨x0, hx0, hg0⟩ := opens30 _ _ _ _ _ _ _ _ _ hf0
  have hcs0 := k30_open hx0
  obtain rfl : cs0 = #[.int .i64 x0.f0, .int .i64 x0.f1, .int .i64 x0.f2] := by apply Array.ext'; simpa [Value.cells] using hcs0
  clear hA0 hval0 hsz0 hsz
  have hk := (Pure.FnExactActOk x0.f0 x0.f1 x0.f2 hg0.1 hg0.2.1 hg0.2.2)
  refine (laws_FnExactActOk.calls x0.f0 x0.f1 x0.f2 true W  hk).mono fun e W' ⟨he, bel0⟩ => ?_
  have bel : Below W.heap.size W W' := bel0
  subst he
  exact ⟨_, rfl, _, _, _, [], _, [], hW', trodAll_mk1 (shut_bool Try.underlying4 _), (trodAll_cons_mk (Below.trod laidOut (by kernel_rfl) (of_decide_eq_true (by kernel_rfl)) k0 bel lt0) trodAll_mk0), rfl, bel.frame _, fun h => by cases h⟩
theorem over : Rows.fnExactActOkRow.holds Try.pinned (OpenSpec.ofChange Rows.fnExactActOkSpec) :=
  OpenClaim.holds_of_wide 5 Try.f5 rfl rfl rfl rfl rfl rfl rfl ⟨rfl, rfl, rfl, rfl, rfl⟩ rfl rfl rfl rfl rfl (by kernel_rfl) Try.func5 (by kernel_rfl)
    (of_decide_eq_true (by kernel_rfl)) (by unfold Func.isWrapper; first | (rw [if_pos (by decide +kernel)]; kernel_rfl) | (rw [if_neg (by decide +kernel)]; exact ⟨rfl, rfl⟩))
    (fun os started H enc _ => lifted os started H enc)
theorem proved : Rows.FnExactActOkSaid := over
#print axioms proved
end Go.Proofs.Ytaahibjpncpdoaa.fnExactActOk
namespace Go.Proofs.Ytaahibjpncpdoaa
/-- The row, under a short name, for the claim. -/
theorem fnExactActOk_holds : Rows.FnExactActOkSaid := fnExactActOk.proved
end Go.Proofs.Ytaahibjpncpdoaa
