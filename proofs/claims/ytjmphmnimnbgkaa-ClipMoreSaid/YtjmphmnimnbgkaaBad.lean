/- The exported functions of clip, where the ribbon or the kinds are not valid: nothing, and the error. -/
import Derived.Test.YtjmphmnimnbgkaaFirst
namespace Go.Proofs.Ytjmphmnimnbgkaa
open Go.RowKit Go.Shelf

set_option maxHeartbeats 400000 in
theorem Cuts_bad (L : Int) (FA : Option Addr) (fn fc : Nat) (fs : List Int) (KA : Option Addr) (kc : Nat) (ks : List Kd) (w : World) (hfs : Sl 1 encI w w.heap.size FA fn fc fs) (hks : Sl 3 encK w w.heap.size KA ks.length kc ks) (hne : rkE L fs ks ≠ 0) :
    Calls Try.prog 26 #[.agg #[.int .i64 L, .slice FA fn fc], .slice KA ks.length kc] w fun e w' => e = .returned (.tuple #[.slice none 0 0, .int .i64 (rkE L fs ks)]) ∧ Below w.heap.size w w' := by
  have ho := Lib.hid (fun W hb => open_bad L FA fn fc fs KA kc ks W (hfs.later (w' := W) hb) (hks.later hb) hne)
  generalize rkE L fs ks = re at *
  have hn2 : (re == 0) = false := by simpa using hne
  have hn3 : (re != 0) = true := by simpa using hne
  clear hne hfs hks
  go_enter Try.func26, Try.ntmps26
  go_wp2_with fail
  refine (ho.out _ (balloc (brefl w) _)).mono ?_
  rintro e w1 ⟨rfl, hb1⟩
  have HB := Lib.hid (Below.later (balloc (brefl w) _) hb1)
  clear hb1
  go_wp2
  go_ret2
  exact ⟨rfl, HB.out⟩

set_option maxHeartbeats 400000 in
theorem Count_bad (L : Int) (FA : Option Addr) (fn fc : Nat) (fs : List Int) (KA : Option Addr) (kc : Nat) (ks : List Kd) (w : World) (hfs : Sl 1 encI w w.heap.size FA fn fc fs) (hks : Sl 3 encK w w.heap.size KA ks.length kc ks) (hne : rkE L fs ks ≠ 0) :
    Calls Try.prog 28 #[.agg #[.int .i64 L, .slice FA fn fc], .slice KA ks.length kc] w fun e w' => e = .returned (.tuple #[.int .i64 0, .int .i64 (rkE L fs ks)]) ∧ Below w.heap.size w w' := by
  have ho := Lib.hid (fun W hb => open_bad L FA fn fc fs KA kc ks W (hfs.later (w' := W) hb) (hks.later hb) hne)
  generalize rkE L fs ks = re at *
  have hn2 : (re == 0) = false := by simpa using hne
  have hn3 : (re != 0) = true := by simpa using hne
  clear hne hfs hks
  go_enter Try.func28, Try.ntmps28
  go_wp2_with fail
  refine (ho.out _ (balloc (brefl w) _)).mono ?_
  rintro e w1 ⟨rfl, hb1⟩
  have HB := Lib.hid (Below.later (balloc (brefl w) _) hb1)
  clear hb1
  go_wp2
  go_ret2
  exact ⟨rfl, HB.out⟩

set_option maxHeartbeats 400000 in
theorem Prices_bad (L : Int) (FA : Option Addr) (fn fc : Nat) (fs : List Int) (KA : Option Addr) (kc : Nat) (ks : List Kd) (w : World) (hfs : Sl 1 encI w w.heap.size FA fn fc fs) (hks : Sl 3 encK w w.heap.size KA ks.length kc ks) (hne : rkE L fs ks ≠ 0) :
    Calls Try.prog 33 #[.agg #[.int .i64 L, .slice FA fn fc], .slice KA ks.length kc] w fun e w' => e = .returned (.tuple #[.slice none 0 0, .int .i64 (rkE L fs ks)]) ∧ Below w.heap.size w w' := by
  have ho := Lib.hid (fun W hb => open_bad L FA fn fc fs KA kc ks W (hfs.later (w' := W) hb) (hks.later hb) hne)
  generalize rkE L fs ks = re at *
  have hn2 : (re == 0) = false := by simpa using hne
  have hn3 : (re != 0) = true := by simpa using hne
  clear hne hfs hks
  go_enter Try.func33, Try.ntmps33
  go_wp2_with fail
  refine (ho.out _ (balloc (brefl w) _)).mono ?_
  rintro e w1 ⟨rfl, hb1⟩
  have HB := Lib.hid (Below.later (balloc (brefl w) _) hb1)
  clear hb1
  go_wp2
  go_ret2
  exact ⟨rfl, HB.out⟩

set_option maxHeartbeats 400000 in
theorem Cost_bad (L : Int) (FA : Option Addr) (fn fc : Nat) (fs : List Int) (KA : Option Addr) (kc : Nat) (ks : List Kd) (fault : Int) (w : World) (hfs : Sl 1 encI w w.heap.size FA fn fc fs) (hks : Sl 3 encK w w.heap.size KA ks.length kc ks) (hne : rkE L fs ks ≠ 0) :
    Calls Try.prog 36 #[.agg #[.int .i64 L, .slice FA fn fc], .slice KA ks.length kc, .int .i64 fault] w fun e w' => e = .returned (.tuple #[.int .i64 0, .int .i64 (rkE L fs ks)]) ∧ Below w.heap.size w w' := by
  have ho := Lib.hid (fun W hb => open_bad L FA fn fc fs KA kc ks W (hfs.later (w' := W) hb) (hks.later hb) hne)
  generalize rkE L fs ks = re at *
  have hn2 : (re == 0) = false := by simpa using hne
  have hn3 : (re != 0) = true := by simpa using hne
  clear hne hfs hks
  go_enter Try.func36, Try.ntmps36
  go_wp2_with fail
  refine (ho.out _ (balloc (brefl w) _)).mono ?_
  rintro e w1 ⟨rfl, hb1⟩
  have HB := Lib.hid (Below.later (balloc (brefl w) _) hb1)
  clear hb1
  go_wp2
  go_ret2
  exact ⟨rfl, HB.out⟩

set_option maxHeartbeats 400000 in
theorem CheckCuts_bad (L : Int) (FA : Option Addr) (fn fc : Nat) (fs : List Int) (KA : Option Addr) (kc : Nat) (ks : List Kd) (CA : Option Addr) (cn cc : Nat) (w : World) (hfs : Sl 1 encI w w.heap.size FA fn fc fs) (hks : Sl 3 encK w w.heap.size KA ks.length kc ks) (hne : rkE L fs ks ≠ 0) :
    Calls Try.prog 18 #[.agg #[.int .i64 L, .slice FA fn fc], .slice KA ks.length kc, .slice CA cn cc] w fun e w' => e = .returned (.tuple #[.int .i64 0, .int .i64 (rkE L fs ks)]) ∧ Below w.heap.size w w' := by
  have ho := Lib.hid (fun W hb => open_bad L FA fn fc fs KA kc ks W (hfs.later (w' := W) hb) (hks.later hb) hne)
  generalize rkE L fs ks = re at *
  have hn2 : (re == 0) = false := by simpa using hne
  have hn3 : (re != 0) = true := by simpa using hne
  clear hne hfs hks
  go_enter Try.func18, Try.ntmps18
  go_wp2_with fail
  refine (ho.out _ (balloc (balloc (brefl w) _) _)).mono ?_
  rintro e w1 ⟨rfl, hb1⟩
  have HB := Lib.hid (Below.later (balloc (balloc (brefl w) _) _) hb1)
  clear hb1
  go_wp2
  go_ret2
  exact ⟨rfl, HB.out⟩
end Go.Proofs.Ytjmphmnimnbgkaa
