/- The chapter's examples, in plain words. -/
import Derived.Test.YtbbdlebmagknmaaSLit
import Derived.Test.YtbbdlebmagknmaaSEarlyG
import Derived.Test.YtbbdlebmagknmaaSApiG
import Derived.KernelRfl
namespace Go.Proofs.Ytbbdlebmagknmaa
open Go.RowKit Go.Shelf

theorem x_yard : yardE 2 rsA = 0 := by kernel_rfl
theorem x_yard0 : yardE 1 [] = 0 := by kernel_rfl
theorem x_h1 : hoursE 2 rsA [2, 4, 4, 7, 7] = 0 ∧ hoursV 2 rsA [2, 4, 4, 7, 7] = 3 := ⟨by kernel_rfl, by kernel_rfl⟩
theorem x_h2 : hoursE 2 rsA [2, 4, 4, 6, 7] = 0 ∧ hoursV 2 rsA [2, 4, 4, 6, 7] = 4 := ⟨by kernel_rfl, by kernel_rfl⟩
theorem x_h3 : hoursE 2 rsA [2, 4, 4, 7] = 15 ∧ hoursV 2 rsA [2, 4, 4, 7] = 0 := ⟨by kernel_rfl, by kernel_rfl⟩
theorem x_h4 : hoursE 2 rsA [2, 4, 4, 7, 8] = 19 ∧ hoursV 2 rsA [2, 4, 4, 7, 8] = 0 := ⟨by kernel_rfl, by kernel_rfl⟩
theorem x_few : fewV 2 rsA = 3 := by kernel_rfl
theorem x_few0 : fewV 1 [] = 0 := by kernel_rfl
theorem x_la : LA rsA 2 101 = 3 := by kernel_rfl
theorem x_n1 : needE 2 rsA ⟨2, 9⟩ = 0 ∧ needV 2 rsA ⟨2, 9⟩ = 3 := ⟨by kernel_rfl, by kernel_rfl⟩
theorem x_n2 : needE 2 rsA ⟨9, 2⟩ = 3 ∧ needV 2 rsA ⟨9, 2⟩ = 0 := ⟨by kernel_rfl, by kernel_rfl⟩
theorem x_p1 : proofE 2 rsA [⟨2, 5⟩, ⟨6, 9⟩] = 0 ∧ proofV 2 rsA [⟨2, 5⟩, ⟨6, 9⟩] = 2 := ⟨by kernel_rfl, by kernel_rfl⟩
theorem x_p2 : proofE 2 rsA [⟨2, 5⟩, ⟨5, 9⟩] = 16 ∧ proofV 2 rsA [⟨2, 5⟩, ⟨5, 9⟩] = 0 := ⟨by kernel_rfl, by kernel_rfl⟩
theorem x_e : earlyV 2 rsA = [2, 4, 7] := by kernel_rfl
theorem x_l : lateV 2 rsA = [4, 7, 9] := by kernel_rfl
theorem x_k1 : keepE 2 rsA 2 = 0 ∧ keepV 2 rsA 2 = [0, 1, 2, 3] := ⟨by kernel_rfl, by kernel_rfl⟩
theorem x_k2 : keepE 2 rsA 11 = 3 ∧ keepV 2 rsA 11 = [] := ⟨by kernel_rfl, by kernel_rfl⟩
end Go.Proofs.Ytbbdlebmagknmaa
