/- steam's vat.need: what a window needs. -/
import Derived.Test.YtbbdlebmagknmaaSRefNeed
namespace Go.Proofs.Ytbbdlebmagknmaa
open Go.RowKit Go.Shelf

theorem two_in (wd x : Rg) (hx : x.lo ≤ x.hi) : (!([x.lo, x.hi].any (outR wd.lo wd.hi))) = inWd wd x := by
  rw [Bool.eq_iff_iff]
  unfold inWd
  simp [outR_eq, outB]
  omega
/-- The box of a window stands, and so does the vat. -/
structure NV (w W : World) (g : Nat) (L : Int) (A : Option Addr) (n c : Nat) (wd : Rg) : Prop where
  bel : Below w.heap.size w W
  b0 : Blk W w.heap.size 27 #[.int .i64 wd.lo, .int .i64 wd.hi]
  v0 : Blk W g 87 #[.int .i64 L, .slice A n c]
theorem NV.later {w W W' : World} {g : Nat} {L : Int} {A : Option Addr} {n c : Nat} {wd : Rg} (h : NV w W g L A n c wd) (hb : Below W.heap.size W W') : NV w W' g L A n c wd := ⟨Below.later h.bel hb, h.b0.later hb, h.v0.later hb⟩
set_option maxRecDepth 100000 in
set_option maxHeartbeats 2000000 in
theorem need_any (g : Nat) (L : Int) (A : Option Addr) (n c : Nat) (rs : List Rg) (wd : Rg) (w : World) (hv : Blk w g 87 #[.int .i64 L, .slice A n c]) (hs : Sl 2 encR w w.heap.size A n c rs) (hn : n ≤ 100) (hL : 1 ≤ L ∧ L ≤ 10) (hlh : ∀ x ∈ rs, x.lo ≤ x.hi) :
    Calls Try.prog 58 #[.pointer (some ⟨g, 0, none⟩), .agg #[.int .i64 wd.lo, .int .i64 wd.hi]] w fun e w' => e = .returned (.int .i64 (needP L rs wd)) ∧ Below w.heap.size w w' := by
  obtain rfl := hs.len
  have Hs := Lib.hid hs
  have HN := Lib.hid (show NV w (w.alloc (.cells #[.int .i64 wd.lo, .int .i64 wd.hi] 27)) g L A rs.length c wd from ⟨balloc (brefl w) _, Blk.new w _ _, hv.alloc _⟩)
  have HL := Lib.hid hL
  have Hlh := Lib.hid hlh
  have v0 := (hv.alloc (.cells #[.int .i64 wd.lo, .int .i64 wd.hi] 27)).cell 0
  have v1 := (hv.alloc (.cells #[.int .i64 wd.lo, .int .i64 wd.hi] 27)).cell 1
  have v2 := (hv.alloc (.cells #[.int .i64 wd.lo, .int .i64 wd.hi] 27)).lt
  clear hs hL hv hlh
  go_enter Try.func58, Try.ntmps58
  go_wp2_with fail
  clear v0 v1 v2
  refine loop_n (fun m b W => b.defers = [] ∧ ∃ (i : Nat) (k : Int), i + m = rs.length ∧ k = ((rs.take i).countP (inWd wd) : Nat) ∧ NV w W g L A rs.length c wd ∧ Fits (some (.pointer (some ⟨g, 0, none⟩)) :: none :: none :: some (.pointer (some ⟨w.heap.size, 0, none⟩)) :: none :: some (.int .i64 k) :: none :: none :: none :: none :: none :: none :: some (.slice A rs.length c) :: some (.int .i64 (rs.length : Nat)) :: some (.int .i64 (i : Nat)) :: none :: none :: none :: none :: none :: none :: none :: none :: none :: none :: none :: none :: none :: none :: none :: none :: none :: none :: none :: []) b.tmps.toList) rs.length ?_ ?_
  · refine ⟨rfl, 0, 0, by omega, by simp, HN.out, ?_⟩
    repeat (first | exact fits_nil | refine fits_none ?_ | refine fits_some ?_)
  clear HN
  intro m b W hI K hK
  obtain ⟨hds, i, k, him, hk, hN, hfit⟩ := hI
  obtain ⟨f, hf⟩ := fits_act hfit
  rw [hds] at hf
  subst hf
  clear hfit hds
  simp only [fillP, Nat.reduceAdd]
  have hkb := List.countP_le_length (p := inWd wd) (l := rs.take i)
  have htl : (rs.take i).length ≤ rs.length := by simp; omega
  have HN := Lib.hid hN
  by_cases hlt : i < rs.length
  · obtain ⟨rb, ro, x, rfl, hrb, hx, g0, g1⟩ := (Hs.out.later hN.bel).ltR hlt
    have i1 : (i : Int) < (rs.length : Int) := by omega
    have i2 : (0 : Int) ≤ (i : Int) := by omega
    have i3 : IntKind.i64.wrap ((i : Int) + 1) = (i : Int) + 1 := by rw [IntKind.wrap_i64]; omega
    have i4 : IntKind.i64.wrap (k + 1) = k + 1 := by rw [IntKind.wrap_i64]; omega
    have hst := count_take (p := inWd wd) hx
    have hin := two_in wd x (Hlh.out x (List.mem_of_getElem? hx))
    have hNb := hN.b0.alloc (.cells #[.int .i64 x.lo, .int .i64 x.hi] 27)
    have c0 := hNb.cell 0
    have c1 := hNb.cell 1
    have c2 := hNb.lt
    have HN1 := Lib.hid (hN.later (balloc (brefl W) (.cells #[.int .i64 x.lo, .int .i64 x.hi] 27)))
    have HN2 := Lib.hid (HN1.out.later (balloc (brefl _) (.cells #[.int .i64 x.lo, .int .i64 x.hi] 2)))
    have Hst := Lib.hid hst
    have Hk := Lib.hid hk
    have Hin := Lib.hid hin
    clear hN hx hst hin hk hkb htl hNb
    go_wp2_with fail
    refine (within_any wd.lo wd.hi (some ⟨W.heap.size + 1, 0, none⟩) 2 2 [x.lo, x.hi] _ (Sl.two (by simp) (by go_simp) (by go_simp))).mono ?_
    rintro e w1 ⟨rfl, hb1⟩
    rw [Hin.out]
    have HN3 := Lib.hid (HN2.out.later hb1)
    clear hb1 HN1 HN2
    cases hq : inWd wd x
    all_goals
      rw [hq] at Hst
      clear hq
      go_wp2
      have h1 := Hk.out
      have h2 := Hst.out
      simp only [if_true, Bool.false_eq_true, if_false] at h2
      first
        | (refine hK _ _ (m - 1) (by omega) ⟨rfl, i + 1, k + 1, by omega, by omega, HN3.out, ?_⟩
           repeat (first | exact fits_nil | refine fits_none ?_ | refine fits_some ?_)
           done)
        | (refine hK _ _ (m - 1) (by omega) ⟨rfl, i + 1, k, by omega, by omega, HN3.out, ?_⟩
           repeat (first | exact fits_nil | refine fits_none ?_ | refine fits_some ?_)
           done)
  · obtain rfl : i = rs.length := by omega
    rw [List.take_length] at hk hkb
    have Hk := Lib.hid hk
    have HL2 := Lib.hid (show 0 ≤ k ∧ k ≤ 1000 by omega)
    clear hN hk hK hkb htl
    go_wp2_with fail
    refine (up_any g L A _ c k _ HN.out.v0 HL.out HL2.out).mono ?_
    rintro e w2 ⟨rfl, hb2⟩
    have HN2 := Lib.hid (HN.out.later hb2)
    clear hb2
    go_wp2
    go_ret
    exact ⟨ret_int (by unfold needP; rw [Hk.out]), HN2.out.bel⟩
end Go.Proofs.Ytbbdlebmagknmaa
