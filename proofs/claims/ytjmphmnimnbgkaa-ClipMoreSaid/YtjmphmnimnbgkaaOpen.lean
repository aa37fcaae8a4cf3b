/- clip.open: the table of a ribbon and of kinds, or the error. -/
import Derived.Test.YtjmphmnimnbgkaaNewTable
namespace Go.Proofs.Ytjmphmnimnbgkaa
open Go.RowKit Go.Shelf

/-- The error of a ribbon, and then that of kinds. -/
def rkE (L : Int) (fs : List Int) (ks : List Kd) : Int := if ribE L fs = 0 then kndE ks else ribE L fs
theorem ribE_zero {L : Int} {fs : List Int} (h : ribE L fs = 0) : (1 ≤ L ∧ L ≤ 24) ∧ ∀ j, j < fs.length → gdB L fs j = true := by
  unfold ribE at h
  split at h
  · rename_i h1
    split at h
    · rename_i h2
      exact ⟨(inR_iff _ _ _).1 h1, fun j hj => List.all_eq_true.1 h2 j (List.mem_range.2 hj)⟩
    · simp at h
  · simp at h

set_option maxHeartbeats 1000000 in
theorem open_bad (L : Int) (FA : Option Addr) (fn fc : Nat) (fs : List Int) (KA : Option Addr) (kc : Nat) (ks : List Kd) (w : World) (hfs : Sl 1 encI w w.heap.size FA fn fc fs) (hks : Sl 3 encK w w.heap.size KA ks.length kc ks) (hne : rkE L fs ks ≠ 0) :
    Calls Try.prog 53 #[.agg #[.int .i64 L, .slice FA fn fc], .slice KA ks.length kc] w fun e w' => e = .returned (.tuple #[.pointer none, .int .i64 (rkE L fs ks)]) ∧ Below w.heap.size w w' := by
  have hr := Lib.hid (fun W hb => ribbon_any L FA fn fc fs W (hfs.later (w' := W) hb))
  have hk := Lib.hid (fun W hb => kinds_any KA ks.length kc ks W (hks.later (w' := W) hb))
  clear hfs hks
  unfold rkE at hne ⊢
  by_cases h0 : ribE L fs = 0
  · rw [if_pos h0] at hne ⊢
    rw [h0] at hr
    generalize kndE ks = ke at *
    have hn2 : (ke == 0) = false := by simpa using hne
    have hn3 : (ke != 0) = true := by simpa using hne
    clear h0 hne
    go_enter Try.func53, Try.ntmps53
    go_wp2_with fail
    refine (hr.out _ (balloc (brefl w) _)).mono ?_
    rintro e w1 ⟨rfl, hb1⟩
    have HB := Lib.hid (Below.later (balloc (brefl w) _) hb1)
    clear hb1
    go_wp2_with fail
    refine (hk.out _ HB.out).mono ?_
    rintro e w2 ⟨rfl, hb2⟩
    have HB2 := Lib.hid (Below.later HB.out hb2)
    clear hb2
    go_wp2
    go_ret2
    exact ⟨rfl, HB2.out⟩
  · rw [if_neg h0] at hne ⊢
    generalize ribE L fs = re at *
    have hn2 : (re == 0) = false := by simpa using hne
    have hn3 : (re != 0) = true := by simpa using hne
    clear h0 hne
    go_enter Try.func53, Try.ntmps53
    go_wp2_with fail
    refine (hr.out _ (balloc (brefl w) _)).mono ?_
    rintro e w1 ⟨rfl, hb1⟩
    have HB := Lib.hid (Below.later (balloc (brefl w) _) hb1)
    clear hb1
    go_wp2_with fail
    go_ret2
    exact ⟨rfl, HB.out⟩

/-- What a valid table is. -/
structure TabOk (w : World) (T : Nat) (L : Nat) (FA : Option Addr) (fn fc : Nat) (KA : Option Addr) (kc : Nat) (fs : List Int) (ks : List Kd) : Prop where
  tab : Tab w w.heap.size T L FA fn fc KA kc ks (Fst fs L) (aheadAt L (Fst fs L) ks L) (behindAt L (Fst fs L) ks L)
  kok : KOk ks
  l1 : 1 ≤ L
  l2 : L ≤ 24
  ne : ∀ b o, KA = some ⟨b, o, none⟩ → b ≠ T
theorem TabOk.later {w w' : World} {T L : Nat} {FA : Option Addr} {fn fc : Nat} {KA : Option Addr} {kc : Nat} {fs : List Int} {ks : List Kd} (h : TabOk w T L FA fn fc KA kc fs ks) (hb : Below w.heap.size w w') : TabOk w' T L FA fn fc KA kc fs ks := ⟨h.tab.later hb, h.kok, h.l1, h.l2, h.ne⟩

set_option maxHeartbeats 1000000 in
theorem open_ok (L : Nat) (FA : Option Addr) (fn fc : Nat) (fs : List Int) (KA : Option Addr) (kc : Nat) (ks : List Kd) (w : World) (hfs : Sl 1 encI w w.heap.size FA fn fc fs) (hks : Sl 3 encK w w.heap.size KA ks.length kc ks) (he : rkE L fs ks = 0) :
    Calls Try.prog 53 #[.agg #[.int .i64 L, .slice FA fn fc], .slice KA ks.length kc] w fun e w' => ∃ T, e = .returned (.tuple #[.pointer (some ⟨T, 0, none⟩), .int .i64 0]) ∧ Below w.heap.size w w' ∧ TabOk w' T L FA fn fc KA kc fs ks := by
  have hr := fun W hb => ribbon_any L FA fn fc fs W (hfs.later (w' := W) hb)
  have hk := fun W hb => kinds_any KA ks.length kc ks W (hks.later (w' := W) hb)
  unfold rkE at he
  by_cases h0 : ribE (L : Int) fs = 0
  · rw [if_pos h0] at he
    obtain ⟨⟨hl1, hl2⟩, _⟩ := ribE_zero h0
    have hko := KOk.of he
    have hn := Lib.hid (fun W hb => newTable_any L FA fn fc fs KA kc ks W (by omega) (by omega) hko (hfs.later (w' := W) hb) (hks.later hb))
    have Hko := Lib.hid hko
    have Hne := Lib.hid (show ∀ b o, KA = some ⟨b, o, none⟩ → b < w.heap.size from fun b o h => by obtain ⟨b', o', hA, hB, _⟩ := hks.at_ (by have := hko.1; omega); rw [h] at hA; cases hA; exact hB)
    simp only [h0] at hr
    simp only [he] at hk
    have Hr := Lib.hid hr
    have Hk := Lib.hid hk
    clear hr hk hfs hks h0 he hko
    go_enter Try.func53, Try.ntmps53
    go_wp2_with fail
    refine (Hr.out _ (balloc (brefl w) _)).mono ?_
    rintro e w1 ⟨rfl, hb1⟩
    have HB := Lib.hid (Below.later (balloc (brefl w) _) hb1)
    have k0 : w1.cell? ⟨w.heap.size, 0, none⟩ = some (.int .i64 L) := (hb1.cell (p := ⟨w.heap.size, 0, none⟩) (by simp)).trans (by go_simp)
    have k1 : w1.cell? ⟨w.heap.size, 1, none⟩ = some (.slice FA fn fc) := (hb1.cell (p := ⟨w.heap.size, 1, none⟩) (by simp)).trans (by go_simp)
    have hz : w.heap.size < w1.heap.size := by have := hb1.size; simp at this; omega
    clear hb1
    go_wp2_with fail
    refine (Hk.out _ HB.out).mono ?_
    rintro e w2 ⟨rfl, hb2⟩
    have HB2 := Lib.hid (Below.later HB.out hb2)
    have k2 := (hb2.cell (p := ⟨w.heap.size, 0, none⟩) hz).trans k0
    have k3 := (hb2.cell (p := ⟨w.heap.size, 1, none⟩) hz).trans k1
    clear hb2 k0 k1
    go_wp2_with fail
    refine (hn.out _ HB2.out).mono ?_
    rintro e w3 ⟨T, hTn, rfl, hb3, ht⟩
    have Hb3 := Lib.hid hb3
    have Ht := Lib.hid ht
    clear hb3 ht k2 k3
    go_wp2
    go_ret2
    exact ⟨T, rfl, Below.later HB2.out Hb3.out, Ht.out, Hko.out, by omega, by omega, fun b o h => by have := Hne.out b o h; have := HB2.out.size; omega⟩
  · rw [if_neg h0] at he
    exact absurd he h0

set_option maxHeartbeats 400000 in
theorem Worth_bad (L : Int) (FA : Option Addr) (fn fc : Nat) (fs : List Int) (KA : Option Addr) (kc : Nat) (ks : List Kd) (w : World) (hfs : Sl 1 encI w w.heap.size FA fn fc fs) (hks : Sl 3 encK w w.heap.size KA ks.length kc ks) (hne : rkE L fs ks ≠ 0) :
    Calls Try.prog 24 #[.agg #[.int .i64 L, .slice FA fn fc], .slice KA ks.length kc] w fun e w' => e = .returned (.tuple #[.int .i64 0, .int .i64 (rkE L fs ks)]) ∧ Below w.heap.size w w' := by
  have ho := Lib.hid (fun W hb => open_bad L FA fn fc fs KA kc ks W (hfs.later (w' := W) hb) (hks.later hb) hne)
  generalize rkE L fs ks = re at *
  have hn2 : (re == 0) = false := by simpa using hne
  have hn3 : (re != 0) = true := by simpa using hne
  clear hne hfs hks
  go_enter Try.func24, Try.ntmps24
  go_wp2_with fail
  refine (ho.out _ (balloc (brefl w) _)).mono ?_
  rintro e w1 ⟨rfl, hb1⟩
  have HB := Lib.hid (Below.later (balloc (brefl w) _) hb1)
  clear hb1
  go_wp2
  go_ret2
  exact ⟨rfl, HB.out⟩
end Go.Proofs.Ytjmphmnimnbgkaa
