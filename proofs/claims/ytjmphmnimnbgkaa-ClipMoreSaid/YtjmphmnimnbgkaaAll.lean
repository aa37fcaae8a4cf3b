/- The contracts of the program and of the document's answer, whether the input is valid or not. -/
import Derived.Test.YtjmphmnimnbgkaaRefCuts
import Derived.Test.YtjmphmnimnbgkaaRefPrices
import Derived.Test.YtjmphmnimnbgkaaBad
import Derived.Test.YtjmphmnimnbgkaaPricesOk
import Derived.Test.YtjmphmnimnbgkaaWorks
namespace Go.Proofs.Ytjmphmnimnbgkaa
open Go.RowKit Go.Shelf

/-- The answer for a valid ribbon and kinds, or their error. -/
def orE (L : Int) (fs : List Int) (ks : List Kd) (a : Nat → Int × Int) : Int × Int := if rkE L fs ks = 0 then a L.toNat else (0, rkE L fs ks)
theorem valid_nat {L : Int} {fs : List Int} {ks : List Kd} (h : rkE L fs ks = 0) : ∃ n : Nat, L = n ∧ 1 ≤ n ∧ n ≤ 24 ∧ KOk ks := by
  unfold rkE at h
  split at h
  · rename_i h0
    have h1 := (ribE_zero h0).1
    exact ⟨L.toNat, by omega, by omega, by omega, KOk.of h⟩
  · rename_i h0; exact absurd h h0
theorem orE_ok {L : Nat} {fs : List Int} {ks : List Kd} {a : Nat → Int × Int} (h : rkE (L : Int) fs ks = 0) : orE L fs ks a = a L := by unfold orE; rw [if_pos h]; rfl
theorem orE_bad {L : Int} {fs : List Int} {ks : List Kd} {a : Nat → Int × Int} (h : rkE L fs ks ≠ 0) : orE L fs ks a = (0, rkE L fs ks) := by unfold orE; rw [if_neg h]

section
variable (L : Int) (FA : Option Addr) (fn fc : Nat) (fs : List Int) (KA : Option Addr) (kc : Nat) (ks : List Kd) (w : World) (hfs : Sl 1 encI w w.heap.size FA fn fc fs) (hks : Sl 3 encK w w.heap.size KA ks.length kc ks)
include hfs hks
theorem checkCuts_all (CA : Option Addr) (cn cc : Nat) (cuts : List Sh) (hC : Sl 2 encS w w.heap.size CA cn cc cuts) :
    Calls Try.prog 18 #[.agg #[.int .i64 L, .slice FA fn fc], .slice KA ks.length kc, .slice CA cn cc] w fun e w' => e = .returned (.tuple #[.int .i64 (orE L fs ks fun n => cutsP n (Fst fs n) ks cuts).1, .int .i64 (orE L fs ks fun n => cutsP n (Fst fs n) ks cuts).2]) ∧ Below w.heap.size w w' := by
  by_cases h : rkE L fs ks = 0
  · obtain ⟨n, rfl, _⟩ := valid_nat h
    rw [orE_ok h]
    exact CheckCuts_ok n FA fn fc fs KA kc ks CA cn cc cuts w hfs hks hC h
  · rw [orE_bad h]
    exact CheckCuts_bad L FA fn fc fs KA kc ks CA cn cc w hfs hks h
theorem refCuts_all (CA : Option Addr) (cn cc : Nat) (cuts : List Sh) (hC : Sl 2 encS w w.heap.size CA cn cc cuts) :
    Calls Try.prog 19 #[.agg #[.int .i64 L, .slice FA fn fc], .slice KA ks.length kc, .slice CA cn cc] w fun e w' => e = .returned (.tuple #[.int .i64 (orE L fs ks fun n => cutsP n (Fst fs n) ks cuts).1, .int .i64 (orE L fs ks fun n => cutsP n (Fst fs n) ks cuts).2]) ∧ Below w.heap.size w w' := by
  by_cases h : rkE L fs ks = 0
  · obtain ⟨n, rfl, _⟩ := valid_nat h
    rw [orE_ok h]
    exact refCuts_ok n FA fn fc fs KA kc ks CA cn cc cuts w hfs hks hC h
  · rw [orE_bad h]
    exact refCuts_bad L FA fn fc fs KA kc ks CA cn cc w hfs hks h
theorem checkPrices_all (CA : Option Addr) (cn cc : Nat) (ps : List Int) (hC : Sl 1 encI w w.heap.size CA cn cc ps) :
    Calls Try.prog 31 #[.agg #[.int .i64 L, .slice FA fn fc], .slice KA ks.length kc, .slice CA cn cc] w fun e w' => e = .returned (.tuple #[.int .i64 (orE L fs ks fun n => pricesP n (Fst fs n) ks ps).1, .int .i64 (orE L fs ks fun n => pricesP n (Fst fs n) ks ps).2]) ∧ Below w.heap.size w w' := by
  by_cases h : rkE L fs ks = 0
  · obtain ⟨n, rfl, _⟩ := valid_nat h
    rw [orE_ok h]
    exact CheckPrices_ok n FA fn fc fs KA kc ks CA cn cc ps w hfs hks hC h
  · rw [orE_bad h]
    exact CheckPrices_bad L FA fn fc fs KA kc ks CA cn cc w hfs hks h
theorem refPrices_all (CA : Option Addr) (cn cc : Nat) (ps : List Int) (hC : Sl 1 encI w w.heap.size CA cn cc ps) :
    Calls Try.prog 32 #[.agg #[.int .i64 L, .slice FA fn fc], .slice KA ks.length kc, .slice CA cn cc] w fun e w' => e = .returned (.tuple #[.int .i64 (orE L fs ks fun n => pricesP n (Fst fs n) ks ps).1, .int .i64 (orE L fs ks fun n => pricesP n (Fst fs n) ks ps).2]) ∧ Below w.heap.size w w' := by
  by_cases h : rkE L fs ks = 0
  · obtain ⟨n, rfl, _⟩ := valid_nat h
    rw [orE_ok h]
    exact refPrices_ok n FA fn fc fs KA kc ks CA cn cc ps w hfs hks hC h
  · rw [orE_bad h]
    exact refPrices_bad L FA fn fc fs KA kc ks CA cn cc w hfs hks h
end

/-- Too many faults for a statement, or too many kinds. -/
def gtB (fn kn : Nat) : Bool := decide ((40 : Int) < (fn : Int)) || decide ((12 : Int) < (kn : Int))
theorem great_any (L : Int) (FA : Option Addr) (fn fc : Nat) (KA : Option Addr) (kn kc : Nat) (w : World) :
    Calls Try.prog 16 #[.agg #[.int .i64 L, .slice FA fn fc], .slice KA kn kc] w fun e w' => e = .returned (.bool (gtB fn kn)) ∧ Below w.heap.size w w' := by
  unfold gtB
  cases h1 : decide ((40 : Int) < (fn : Int)) with
  | true =>
    go_enter Try.func16, Try.ntmps16
    go_wp2
    go_ret
    exact ⟨rfl, balloc (brefl w) _⟩
  | false =>
    go_enter Try.func16, Try.ntmps16
    go_wp2
    go_ret
    exact ⟨rfl, balloc (brefl w) _⟩

/-- A law's ribbon and kinds stand. -/
structure LW (w W : World) (B0 : Nat) (L : Int) (FA : Option Addr) (fn fc : Nat) (fs : List Int) (KA : Option Addr) (kc : Nat) (ks : List Kd) : Prop where
  bel : Below w.heap.size w W
  b0 : Blk W B0 24 #[.int .i64 L, .slice FA fn fc]
  fsl : Sl 1 encI W W.heap.size FA fn fc fs
  ksl : Sl 3 encK W W.heap.size KA ks.length kc ks
section
variable {w W W' : World} {B0 : Nat} {L : Int} {FA : Option Addr} {fn fc : Nat} {fs : List Int} {KA : Option Addr} {kc : Nat} {ks : List Kd}
theorem LW.later (h : LW w W B0 L FA fn fc fs KA kc ks) (hb : Below W.heap.size W W') : LW w W' B0 L FA fn fc fs KA kc ks := ⟨Below.later h.bel hb, h.b0.later hb, h.fsl.later hb, h.ksl.later hb⟩
theorem LW.cells (h : LW w W B0 L FA fn fc fs KA kc ks) : W.cell? ⟨B0, 0, none⟩ = some (.int .i64 L) ∧ W.cell? ⟨B0, 1, none⟩ = some (.slice FA fn fc) ∧ B0 < W.heap.size := ⟨h.b0.cell 0, h.b0.cell 1, h.b0.lt⟩
end
end Go.Proofs.Ytjmphmnimnbgkaa
