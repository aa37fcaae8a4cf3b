/- The statement GradeOrders. No condition. -/
import Derived.Test.YtmfiggbobaihcaaGLawOrdersM
import Derived.Test.YtmfiggbobaihcaaGArgs
namespace Go.Proofs.Ytmfiggbobaihcaa.gradeOrders
open Go.ChangeShapes Go.WideShapes Go.ChangeAt Go.RowKit

theorem own : ownKnob Try.prog.godebug = none := by kernel_rfl
set_option maxRecDepth 100000 in
theorem lifted (os : Os) (started : os.Started) (H : Type) (enc : TypeId × Value → H) :
    ReturnsInHanded {} Try.checked os 12 .any (Rows.gradeOrdersSpec.pre6 enc Try.prog Try.f12 Rows.gradeOrdersRow.domain false) (Rows.gradeOrdersSpec.post enc Try.prog Try.f12 false true false false) := by
  refine returnsInHanded_of_change (C := Try.checked) own started (by kernel_rfl) Try.func12
    (ChangeSpec.witness6 (enc := enc) (C := Try.checked) false ⟨#[], #[.agg #[.slice none 0 0, .slice none 0 0, .slice none 0 0], .int .u8 0], []⟩ 8 (by kernel_rfl) (by kernel_rfl) (by kernel_rfl) (by kernel_rfl)) ?_
  intro W base args ds gs before hval0 hW hcnd _
  have hW' := hW
  obtain ⟨p, q, hA0, hV, rfl, hfz, hnd⟩ := hW
  have hA : DataW.TrodAll enc Try.prog W 0 (fun _ => true) true Try.f12.params.toList args.toList ds p := hA0
  rw [Try.params12] at hA
  obtain ⟨rfl, rfl⟩ := trodVars_none hV
  obtain ⟨v0, vs0, d0, ds0, p0, q0, hv0, rfl, rfl, ht0, hr0⟩ := trodAll_cons hA
  obtain ⟨v1, vs1, d1, ds1, p1, q1, hv1, rfl, rfl, ht1, hr1⟩ := trodAll_cons hr0
  subst hv1
  obtain ⟨rfl, rfl, rfl⟩ := trodAll_nil hr1
  obtain ⟨argl⟩ := args
  simp only at hv0
  subst hv0
  have hk0 := hval0 0 _ _ rfl rfl
  obtain ⟨SA0, sn0, sc0, PA0, pn0, pc0, OA0, on0, oc0, S0, P0, O0, rfl, hs0⟩ := open_shop hk0 ht0
  have hk1 := hval0 1 _ _ rfl rfl
  obtain ⟨x1, rfl, _, _, ho1⟩ := open_int Try.underlying5 hk1 ht1
  refine (orders_law SA0 sn0 sc0 PA0 pn0 pc0 OA0 on0 oc0 S0 P0 O0 x1 W hs0 (bounds_u8 ho1)).mono fun e W' ⟨he, hb⟩ => ?_
  subst he
  refine ⟨_, rfl, law_done (tb := 4) (by kernel_rfl) hW' rfl (fun t ht => ?_) rfl rfl Try.underlying4 hb⟩
  rw [Try.params12] at ht
  simp only [List.mem_cons, List.not_mem_nil, or_false] at ht
  rcases ht with rfl | rfl <;> exact ⟨by kernel_rfl, of_decide_eq_true (by kernel_rfl)⟩
/-- **The statement.** -/
theorem proved : Rows.GradeOrdersSaid :=
  OpenClaim.holds_of_wide 12 Try.f12 rfl rfl rfl rfl rfl rfl rfl ⟨rfl, rfl, rfl, rfl, rfl⟩ rfl rfl rfl rfl rfl (by kernel_rfl) Try.func12 (by kernel_rfl)
    (of_decide_eq_true (by kernel_rfl)) (by unfold Func.isWrapper; first | (rw [if_pos (by decide +kernel)]; kernel_rfl) | (rw [if_neg (by decide +kernel)]; exact ⟨rfl, rfl⟩))
    (fun os started H enc _ => lifted os started H enc)
end Go.Proofs.Ytmfiggbobaihcaa.gradeOrders
