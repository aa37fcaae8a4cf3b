/- The document's NeedOf: what a window needs. -/
import Derived.Test.YtbbdlebmagknmaaSOpen
namespace Go.Proofs.Ytbbdlebmagknmaa
open Go.RowKit Go.Shelf

/-- A log is within a window. -/
def inWd (wd r : Rg) : Bool := decide (wd.lo ≤ r.lo) && decide (r.hi ≤ wd.hi)
def needP (L : Int) (rs : List Rg) (wd : Rg) : Int := upI ((rs.countP (inWd wd) : Nat) : Int) L
theorem count_take {α : Type} {p : α → Bool} {l : List α} {i : Nat} {x : α} (hx : l[i]? = some x) : (l.take (i + 1)).countP p = (l.take i).countP p + if p x then 1 else 0 := by
  obtain ⟨h, rfl⟩ := List.getElem?_eq_some_iff.1 hx
  rw [List.take_succ_eq_append_getElem h, List.countP_append]
  simp [List.countP_cons]
structure NW (w W : World) (L : Int) (A : Option Addr) (n c : Nat) (wd : Rg) : Prop where
  bel : Below w.heap.size w W
  b0 : Blk W w.heap.size 24 #[.int .i64 L, .slice A n c]
  b1 : Blk W (w.heap.size + 1) 27 #[.int .i64 wd.lo, .int .i64 wd.hi]
theorem NW.later {w W W' : World} {L : Int} {A : Option Addr} {n c : Nat} {wd : Rg} (h : NW w W L A n c wd) (hb : Below W.heap.size W W') : NW w W' L A n c wd := ⟨Below.later h.bel hb, h.b0.later hb, h.b1.later hb⟩
set_option maxRecDepth 100000 in
set_option maxHeartbeats 2000000 in
theorem refNeed_any (L : Int) (A : Option Addr) (n c : Nat) (rs : List Rg) (wd : Rg) (w : World) (hs : Sl 2 encR w w.heap.size A n c rs) (hn : n ≤ 100) (hL : 1 ≤ L ∧ L ≤ 10) :
    Calls Try.prog 60 #[.agg #[.int .i64 L, .slice A n c], .agg #[.int .i64 wd.lo, .int .i64 wd.hi]] w fun e w' => e = .returned (.int .i64 (needP L rs wd)) ∧ Below w.heap.size w w' := by
  obtain rfl := hs.len
  have Hs := Lib.hid hs
  have hb1 := Blk.new (w.alloc (.cells #[.int .i64 L, .slice A rs.length c] 24)) 27 #[.int .i64 wd.lo, .int .i64 wd.hi]
  rw [World.size_alloc] at hb1
  have HN := Lib.hid (show NW w ((w.alloc (.cells #[.int .i64 L, .slice A rs.length c] 24)).alloc (.cells #[.int .i64 wd.lo, .int .i64 wd.hi] 27)) L A rs.length c wd from ⟨balloc (balloc (brefl w) _) _, (Blk.new w _ _).alloc _, hb1⟩)
  have HL := Lib.hid hL
  clear hs hb1 hL
  go_enter Try.func60, Try.ntmps60
  go_wp2_with fail
  refine loop_n (fun m b W => b.defers = [] ∧ ∃ (i : Nat) (k : Int), i + m = rs.length ∧ k = ((rs.take i).countP (inWd wd) : Nat) ∧ NW w W L A rs.length c wd ∧ Fits (none :: none :: some (.pointer (some ⟨w.heap.size, 0, none⟩)) :: some (.pointer (some ⟨w.heap.size + 1, 0, none⟩)) :: none :: some (.int .i64 k) :: some (.int .i64 (i : Nat)) :: none :: none :: none :: none :: none :: none :: none :: none :: none :: none :: none :: none :: none :: none :: none :: none :: none :: none :: none :: none :: none :: none :: none :: none :: none :: none :: none :: none :: none :: none :: none :: none :: none :: []) b.tmps.toList) rs.length ?_ ?_
  · refine ⟨rfl, 0, 0, by omega, by simp, HN.out, ?_⟩
    repeat (first | exact fits_nil | refine fits_none ?_ | refine fits_some ?_)
  clear HN
  intro m b W hI K hK
  obtain ⟨hds, i, k, him, hk, hN, hfit⟩ := hI
  obtain ⟨g, hg⟩ := fits_act hfit
  rw [hds] at hg
  subst hg
  clear hfit hds
  simp only [fillP, Nat.reduceAdd]
  have c0 := hN.b0.cell 0
  have c1 := hN.b0.cell 1
  have c2 := hN.b0.lt
  have d0 := hN.b1.cell 0
  have d1 := hN.b1.cell 1
  have d2 := hN.b1.lt
  have hkb := List.countP_le_length (p := inWd wd) (l := rs.take i)
  have htl : (rs.take i).length ≤ rs.length := by simp; omega
  have HN := Lib.hid hN
  by_cases hlt : i < rs.length
  · obtain ⟨rb, ro, x, rfl, hrb, hx, g0, g1⟩ := (Hs.out.later hN.bel).ltR hlt
    have i1 : (i : Int) < (rs.length : Int) := by omega
    have i2 : (0 : Int) ≤ (i : Int) := by omega
    have i3 : IntKind.i64.wrap ((i : Int) + 1) = (i : Int) + 1 := by rw [IntKind.wrap_i64]; omega
    have i4 : IntKind.i64.wrap (k + 1) = k + 1 := by rw [IntKind.wrap_i64]; omega
    have hst := count_take (p := inWd wd) hx
    obtain ⟨q1, hq1⟩ : ∃ q, decide (wd.lo ≤ x.lo) = q := ⟨_, rfl⟩
    obtain ⟨q2, hq2⟩ : ∃ q, decide (x.hi ≤ wd.hi) = q := ⟨_, rfl⟩
    have hin : inWd wd x = (q1 && q2) := by unfold inWd; rw [hq1, hq2]
    rw [hin] at hst
    have Hst := Lib.hid hst
    have Hk := Lib.hid hk
    clear hN hx hst hin hk hkb htl
    cases q1
    all_goals
      cases q2
      all_goals
        have HK := Lib.hid Hst.out
        go_wp2_with fail
        refine dag 20 (by kernel_rfl) (by kernel_rfl) (.is ?_ :: .is ?_ :: .is ?_ :: .is ?_ :: .is ?_ :: .is ?_ :: .is ?_ :: .is ?_ :: .is ?_ :: .is ?_ :: .is ?_ :: .is ?_ :: .is ?_ :: .is ?_ :: .is ?_ :: .is ?_ :: .is ?_ :: .is ?_ :: .is ?_ :: .is ?_ :: []) rfl ?st1 ?ob1
        case st1 => simp [Spec.ok]
        case ob1 =>
          intro env W' hG
          obtain ⟨hc, hf⟩ := bcell hG
          repeat (refine obls_is ?_ ?_; unfold doesAt; go_simp; (try go_bits); (first | (refine ⟨brefl _, ?_⟩; rfl) | rfl); intro K hK; go_simp; refine hK _ ?_; clear hK K)
          refine obls_nil (fun _ => ?_)
          have HN2 := Lib.hid (HN.out.later hG)
          clear hc hf hG
          go_wp2
          have h1 := Hk.out
          have h2 := HK.out
          simp only [Bool.and_self, Bool.and_true, Bool.and_false, if_true, Bool.false_eq_true, if_false] at h2
          first
            | (refine hK _ _ (m - 1) (by omega) ⟨rfl, i + 1, k + 1, by omega, by omega, HN2.out, ?_⟩
               repeat (first | exact fits_nil | refine fits_none ?_ | refine fits_some ?_)
               done)
            | (refine hK _ _ (m - 1) (by omega) ⟨rfl, i + 1, k, by omega, by omega, HN2.out, ?_⟩
               repeat (first | exact fits_nil | refine fits_none ?_ | refine fits_some ?_)
               done)
  · obtain rfl : i = rs.length := by omega
    rw [List.take_length] at hk hkb
    have Hk := Lib.hid hk
    have HL2 := Lib.hid (show 0 ≤ k ∧ k ≤ 1000 by omega)
    clear hN hk hK hkb htl
    go_wp2_with fail
    refine (refUp_any L k _ HL.out HL2.out).mono ?_
    rintro e w2 ⟨rfl, hb2⟩
    have HN2 := Lib.hid (HN.out.later hb2)
    clear hb2
    go_wp2
    go_ret
    exact ⟨ret_int (by unfold needP; rw [Hk.out]), HN2.out.bel⟩
end Go.Proofs.Ytbbdlebmagknmaa
