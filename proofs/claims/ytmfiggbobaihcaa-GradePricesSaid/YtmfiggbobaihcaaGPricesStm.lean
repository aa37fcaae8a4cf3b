/- The statement GradePrices. No condition. -/
import Derived.Test.YtmfiggbobaihcaaGLawPricesM
import Derived.Test.YtmfiggbobaihcaaGArgs
namespace Go.Proofs.Ytmfiggbobaihcaa.gradePrices
open Go.ChangeShapes Go.WideShapes Go.ChangeAt Go.RowKit

theorem own : ownKnob Try.prog.godebug = none := by kernel_rfl
set_option maxRecDepth 100000 in
theorem lifted (os : Os) (started : os.Started) (H : Type) (enc : TypeId × Value → H) :
    ReturnsInHanded {} Try.checked os 11 .any (Rows.gradePricesSpec.pre6 enc Try.prog Try.f11 Rows.gradePricesRow.domain false) (Rows.gradePricesSpec.post enc Try.prog Try.f11 false true false false) := by
  refine returnsInHanded_of_change (C := Try.checked) own started (by kernel_rfl) Try.func11
    (ChangeSpec.witness6 (enc := enc) (C := Try.checked) false ⟨#[], #[.agg #[.slice none 0 0, .slice none 0 0, .slice none 0 0], .int .u8 0, .int .u8 0, .int .u8 0], []⟩ 8 (by kernel_rfl) (by kernel_rfl) (by kernel_rfl) (by kernel_rfl)) ?_
  intro W base args ds gs before hval0 hW hcnd _
  have hW' := hW
  obtain ⟨p, q, hA0, hV, rfl, hfz, hnd⟩ := hW
  have hA : DataW.TrodAll enc Try.prog W 0 (fun _ => true) true Try.f11.params.toList args.toList ds p := hA0
  rw [Try.params11] at hA
  obtain ⟨rfl, rfl⟩ := trodVars_none hV
  obtain ⟨v0, vs0, d0, ds0, p0, q0, hv0, rfl, rfl, ht0, hr0⟩ := trodAll_cons hA
  obtain ⟨v1, vs1, d1, ds1, p1, q1, hv1, rfl, rfl, ht1, hr1⟩ := trodAll_cons hr0
  subst hv1
  obtain ⟨v2, vs2, d2, ds2, p2, q2, hv2, rfl, rfl, ht2, hr2⟩ := trodAll_cons hr1
  subst hv2
  obtain ⟨v3, vs3, d3, ds3, p3, q3, hv3, rfl, rfl, ht3, hr3⟩ := trodAll_cons hr2
  subst hv3
  obtain ⟨rfl, rfl, rfl⟩ := trodAll_nil hr3
  obtain ⟨argl⟩ := args
  simp only at hv0
  subst hv0
  have hk0 := hval0 0 _ _ rfl rfl
  obtain ⟨SA0, sn0, sc0, PA0, pn0, pc0, OA0, on0, oc0, S0, P0, O0, rfl, hs0⟩ := open_shop hk0 ht0
  have hk1 := hval0 1 _ _ rfl rfl
  obtain ⟨x1, rfl, _, _, ho1⟩ := open_int Try.underlying5 hk1 ht1
  have hk2 := hval0 2 _ _ rfl rfl
  obtain ⟨x2, rfl, _, _, ho2⟩ := open_int Try.underlying5 hk2 ht2
  have hk3 := hval0 3 _ _ rfl rfl
  obtain ⟨x3, rfl, _, _, ho3⟩ := open_int Try.underlying5 hk3 ht3
  refine (prices_law SA0 sn0 sc0 PA0 pn0 pc0 OA0 on0 oc0 S0 P0 O0 x1 x2 x3 W hs0 (bounds_u8 ho1) (bounds_u8 ho2) (bounds_u8 ho3)).mono fun e W' ⟨he, hb⟩ => ?_
  subst he
  refine ⟨_, rfl, law_done (tb := 4) (by kernel_rfl) hW' rfl (fun t ht => ?_) rfl rfl Try.underlying4 hb⟩
  rw [Try.params11] at ht
  simp only [List.mem_cons, List.not_mem_nil, or_false] at ht
  rcases ht with rfl | rfl | rfl | rfl <;> exact ⟨by kernel_rfl, of_decide_eq_true (by kernel_rfl)⟩
/-- **The statement.** -/
theorem proved : Rows.GradePricesSaid :=
  OpenClaim.holds_of_wide 11 Try.f11 rfl rfl rfl rfl rfl rfl rfl ⟨rfl, rfl, rfl, rfl, rfl⟩ rfl rfl rfl rfl rfl (by kernel_rfl) Try.func11 (by kernel_rfl)
    (of_decide_eq_true (by kernel_rfl)) (by unfold Func.isWrapper; first | (rw [if_pos (by decide +kernel)]; kernel_rfl) | (rw [if_neg (by decide +kernel)]; exact ⟨rfl, rfl⟩))
    (fun os started H enc _ => lifted os started H enc)
end Go.Proofs.Ytmfiggbobaihcaa.gradePrices
