/- The examples of the chapter, reckoned by the plain words. No program. -/
import Derived.Test.YtjmphmnimnbgkaaParted
import Derived.Test.YtjmphmnimnbgkaaLitSheets
import Derived.Test.YtjmphmnimnbgkaaPath
import Derived.Test.YtjmphmnimnbgkaaCost
import Derived.KernelRfl
namespace Go.Proofs.Ytjmphmnimnbgkaa
open Go.RowKit

def fsT : List Int := [3, 8]
def ksT : List Kd := [⟨4, 10, 0⟩, ⟨2, 3, 0⟩, ⟨3, 4, 1⟩]
def ahT : Nat → Int := aheadAt 10 (Fst fsT 10) ksT 10
def beT : Nat → Int := behindAt 10 (Fst fsT 10) ksT 10
theorem ex_ok : rkE ((10 : Nat) : Int) fsT ksT = 0 := by kernel_rfl
theorem ex_c1 : cutsP 10 (Fst fsT 10) ksT [⟨0, 1⟩, ⟨2, 2⟩, ⟨5, 1⟩, ⟨7, 2⟩] = (14, 0) := by kernel_rfl
theorem ex_c2 : cutsP 10 (Fst fsT 10) ksT [⟨0, 0⟩] = (0, 18) := by kernel_rfl
theorem ex_c3 : cutsP 10 (Fst fsT 10) ksT [⟨4, 2⟩, ⟨5, 1⟩] = (0, 16) := by kernel_rfl
theorem ex_c4 : cutsP 10 (Fst fsT 10) ksT [⟨11, 0⟩] = (0, 3) := by kernel_rfl
theorem ex_w : ahT 10 = 14 := by kernel_rfl
theorem ex_f : firstAt 10 (Fst fsT 10) ksT beT 10 0 = [⟨0, 1⟩, ⟨2, 2⟩, ⟨5, 1⟩, ⟨7, 2⟩] := by kernel_rfl
theorem ex_n : manyAt 10 (Fst fsT 10) ksT beT 10 0 = 3 := by kernel_rfl
theorem ex_p0 : partedP 10 (Fst fsT 10) ksT ahT beT 0 = (2, 0) := by kernel_rfl
theorem ex_p5 : partedP 10 (Fst fsT 10) ksT ahT beT 5 = (1, 0) := by kernel_rfl
theorem ex_p6 : partedP 10 (Fst fsT 10) ksT ahT beT 6 = (0, 0) := by kernel_rfl
theorem ex_p11 : partedP 10 (Fst fsT 10) ksT ahT beT 11 = (0, 2) := by kernel_rfl
theorem ex_q1 : pricesP 10 (Fst fsT 10) ksT [0, 3, 1, 0, 3, 1, 2, 4, 0, 0] = (14, 0) := by kernel_rfl
theorem ex_q2 : pricesP 10 (Fst fsT 10) ksT [1, 1, 1, 1, 1, 1, 1, 1, 1, 1] = (0, 14) := by kernel_rfl
theorem ex_q3 : pricesP 10 (Fst fsT 10) ksT [0, 0] = (0, 15) := by kernel_rfl
theorem ex_q4 : pricesP 10 (Fst fsT 10) ksT (pricesAt ahT 10) = (14, 0) := by kernel_rfl
theorem ex_k0 : costP 10 fsT ksT 0 = (6, 0) := by kernel_rfl
theorem ex_k1 : costP 10 fsT ksT 1 = (4, 0) := by kernel_rfl
theorem ex_k2 : costP 10 fsT ksT 2 = (0, 2) := by kernel_rfl
theorem ex_c5 : cutsP 10 (Fst fsT 10) ksT [⟨8, 2⟩] = (0, 18) := by kernel_rfl
theorem ex_c6 : cutsP 10 (Fst fsT 10) ksT [] = (0, 0) := by kernel_rfl
theorem ex_q5 : pricesP 10 (Fst fsT 10) ksT [3, 3, 3, 3, 3, 3, 3, 3, 3, 3] = (30, 0) := by kernel_rfl
theorem ex_r : ribE ((10 : Nat) : Int) fsT = 0 := by kernel_rfl
theorem ex_k : kndE ksT = 0 := by kernel_rfl
theorem ex_r3 : ribE 3 [2, 1] = 3 := by kernel_rfl
end Go.Proofs.Ytjmphmnimnbgkaa
