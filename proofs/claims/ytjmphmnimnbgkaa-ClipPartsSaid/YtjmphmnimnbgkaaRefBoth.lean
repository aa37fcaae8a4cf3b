/- The document's answer: the errors of a ribbon, and of kinds. -/
import Derived.Test.YtjmphmnimnbgkaaRefRib
import Derived.Test.YtjmphmnimnbgkaaOpen
namespace Go.Proofs.Ytjmphmnimnbgkaa
open Go.RowKit Go.Shelf

set_option maxHeartbeats 400000 in
theorem both_any (L : Int) (FA : Option Addr) (fn fc : Nat) (fs : List Int) (KA : Option Addr) (kc : Nat) (ks : List Kd) (w : World) (hfs : Sl 1 encI w w.heap.size FA fn fc fs) (hks : Sl 3 encK w w.heap.size KA ks.length kc ks) :
    Calls Try.prog 59 #[.agg #[.int .i64 L, .slice FA fn fc], .slice KA ks.length kc] w fun e w' => e = .returned (.int .i64 (rkE L fs ks)) ∧ Below w.heap.size w w' := by
  have hB0 := balloc (brefl w) (.cells #[.int .i64 L, .slice FA fn fc] 24)
  have hr := Lib.hid (fun W hb => refRib_any L FA fn fc fs W (hfs.later (w' := W) hb))
  have hk := Lib.hid (fun W hb => refKinds_any KA kc ks W (hks.later (w' := W) hb))
  have hb0 := Blk.new w 24 #[.int .i64 L, .slice FA fn fc]
  obtain ⟨W, hW⟩ : ∃ W, w.alloc (.cells #[.int .i64 L, .slice FA fn fc] 24) = W := ⟨_, rfl⟩
  rw [hW] at hB0 hb0
  have HB0 := Lib.hid hB0
  have Hb0 := Lib.hid hb0
  clear hfs hks hB0 hb0
  have hcell : ∀ W', Below W.heap.size W W' → W'.cell? ⟨w.heap.size, 0, none⟩ = some (.int .i64 L) ∧ W'.cell? ⟨w.heap.size, 1, none⟩ = some (.slice FA fn fc) ∧ w.heap.size < W'.heap.size := fun W' hb => ⟨(Hb0.out.later hb).cell 0, (Hb0.out.later hb).cell 1, (Hb0.out.later hb).lt⟩
  have Hcell := Lib.hid hcell
  clear hcell
  obtain ⟨c0, c1, c2⟩ := Hcell.out W (brefl W)
  unfold rkE
  by_cases h0 : ribE L fs = 0
  · rw [if_pos h0]
    rw [h0] at hr
    clear h0
    go_enter Try.func59, Try.ntmps59
    go_wp2_with fail
    clear hW
    refine (hr.out _ HB0.out).mono ?_
    rintro e w1 ⟨rfl, hb1⟩
    have HB1 := Lib.hid (Below.later HB0.out hb1)
    clear hb1
    go_wp2_with fail
    refine (hk.out _ HB1.out).mono ?_
    rintro e w2 ⟨rfl, hb2⟩
    have HB2 := Lib.hid (Below.later HB1.out hb2)
    clear hb2
    go_wp2
    go_ret
    exact ⟨rfl, HB2.out⟩
  · rw [if_neg h0]
    generalize ribE L fs = re at *
    have hn3 : (re != 0) = true := by simpa using h0
    clear h0
    go_enter Try.func59, Try.ntmps59
    go_wp2_with fail
    clear hW
    refine (hr.out _ HB0.out).mono ?_
    rintro e w1 ⟨rfl, hb1⟩
    obtain ⟨d0, d1, d2⟩ := Hcell.out w1 hb1
    have HB1 := Lib.hid (Below.later HB0.out hb1)
    clear hb1
    go_wp2_with fail
    refine (hr.out _ HB1.out).mono ?_
    rintro e w2 ⟨rfl, hb2⟩
    have HB2 := Lib.hid (Below.later HB1.out hb2)
    clear hb2
    go_wp2
    go_ret
    exact ⟨rfl, HB2.out⟩
end Go.Proofs.Ytjmphmnimnbgkaa
