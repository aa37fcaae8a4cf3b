/- The statement SteamApart. No condition. -/
import Derived.Test.YtbbdlebmagknmaaSLawApart
import Derived.Test.YtbbdlebmagknmaaSArgs
namespace Go.Proofs.Ytbbdlebmagknmaa.steamApart
open Go.ChangeShapes Go.WideShapes Go.ChangeAt Go.RowKit

theorem own : ownKnob Try.prog.godebug = none := by kernel_rfl
set_option maxRecDepth 100000 in
theorem lifted (os : Os) (started : os.Started) (H : Type) (enc : TypeId × Value → H) :
    ReturnsInHanded {} Try.checked os 14 .any (Rows.steamApartSpec.pre6 enc Try.prog Try.f14 Rows.steamApartRow.domain false) (Rows.steamApartSpec.post enc Try.prog Try.f14 false true false false) := by
  refine returnsInHanded_of_change (C := Try.checked) own started (by kernel_rfl) Try.func14
    (ChangeSpec.witness6 (enc := enc) (C := Try.checked) false ⟨#[], #[.agg #[.int .i64 0, .slice none 0 0], .agg #[.int .i64 0, .slice none 0 0]], []⟩ 8 (by kernel_rfl) (by kernel_rfl) (by kernel_rfl) (by kernel_rfl)) ?_
  intro W base args ds gs before hval0 hW hcnd _
  have hW' := hW
  obtain ⟨p, q, hA0, hV, rfl, hfz, hnd⟩ := hW
  have hA : DataW.TrodAll enc Try.prog W 0 (fun _ => true) true Try.f14.params.toList args.toList ds p := hA0
  rw [Try.params14] at hA
  obtain ⟨rfl, rfl⟩ := trodVars_none hV
  obtain ⟨v0, vs0, d0, ds0, p0, q0, hv0, rfl, rfl, ht0, hr0⟩ := trodAll_cons hA
  obtain ⟨v1, vs1, d1, ds1, p1, q1, hv1, rfl, rfl, ht1, hr1⟩ := trodAll_cons hr0
  subst hv1
  obtain ⟨rfl, rfl, rfl⟩ := trodAll_nil hr1
  obtain ⟨argl⟩ := args
  simp only at hv0
  subst hv0
  have hk0 := hval0 0 _ _ rfl rfl
  obtain ⟨L0, A0, n0, c0, rs0, rfl, hL0, hs0, ho0⟩ := open_yard hk0 ht0
  have hk1 := hval0 1 _ _ rfl rfl
  obtain ⟨L1, A1, n1, c1, rs1, rfl, hL1, hs1, ho1⟩ := open_yard hk1 ht1
  refine (apart_law L0 A0 n0 c0 rs0 L1 A1 n1 c1 rs1 W hs0 hs1).mono fun e W' ⟨he, hb⟩ => ?_
  subst he
  refine ⟨_, rfl, law_done (tb := 4) (by kernel_rfl) hW' rfl (fun t ht => ?_) rfl rfl Try.underlying4 hb⟩
  rw [Try.params14] at ht
  simp only [List.mem_cons, List.not_mem_nil, or_false] at ht
  rcases ht with rfl | rfl <;> exact ⟨by kernel_rfl, of_decide_eq_true (by kernel_rfl)⟩
/-- **The statement.** -/
theorem proved : Rows.SteamApartSaid :=
  OpenClaim.holds_of_wide 14 Try.f14 rfl rfl rfl rfl rfl rfl rfl ⟨rfl, rfl, rfl, rfl, rfl⟩ rfl rfl rfl rfl rfl (by kernel_rfl) Try.func14 (by kernel_rfl)
    (of_decide_eq_true (by kernel_rfl)) (by unfold Func.isWrapper; first | (rw [if_pos (by decide +kernel)]; kernel_rfl) | (rw [if_neg (by decide +kernel)]; exact ⟨rfl, rfl⟩))
    (fun os started H enc _ => lifted os started H enc)
end Go.Proofs.Ytbbdlebmagknmaa.steamApart
