/- steam's Keep: the most logs for so many loads. -/
import Derived.Test.YtbbdlebmagknmaaSApi
namespace Go.Proofs.Ytbbdlebmagknmaa
open Go.RowKit Go.Shelf

def keepE (L : Int) (rs : List Rg) (ld : Int) : Int := if yardE L rs = 0 then (if inR 0 10 ld then 0 else 3) else yardE L rs
def keepV (L : Int) (rs : List Rg) (ld : Int) : List Nat := if yardE L rs = 0 then (if inR 0 10 ld then pickL (goL (fitsB rs L.toNat ld) rs.length rs.length []) [] else []) else []
set_option maxRecDepth 100000 in
set_option maxHeartbeats 4000000 in
theorem keep_any (L : Int) (A : Option Addr) (n c : Nat) (rs : List Rg) (ld : Int) (w : World) (hs : Sl 2 encR w w.heap.size A n c rs) :
    Calls Try.prog 36 #[.agg #[.int .i64 L, .slice A n c], .int .i64 ld] w fun e w' => ∃ v, e = .returned (.tuple #[v, .int .i64 (keepE L rs ld)]) ∧ Below w.heap.size w w' ∧ ListV w' w.heap.size (keepV L rs ld) v := by
  obtain rfl := hs.len
  by_cases he : yardE L rs = 0
  · obtain ⟨m, rfl, hL, hr⟩ := yard_nat he
    unfold keepV keepE
    rw [if_pos he, if_pos he]
    have hb0 : Below w.heap.size w ((w.alloc (.cells #[.int .i64 (m : Int), .slice A rs.length c] 24)).alloc (.cells #[.int .i64 ld] 2)) := balloc (balloc (brefl w) _) _
    have hZ := Blk.new (w.alloc (.cells #[.int .i64 (m : Int), .slice A rs.length c] 24)) 2 #[.int .i64 ld]
    rw [World.size_alloc] at hZ
    have hY := (Blk.new w 24 #[.int .i64 (m : Int), .slice A rs.length c]).alloc (.cells #[.int .i64 ld] 2)
    have hc := Lib.hid (open_ok (m : Int) A rs.length c rs _ (hs.later hb0) he)
    have Hs := Lib.hid hs
    have Hr := Lib.hid hr
    have HB0 := Lib.hid hb0
    have HZ := Lib.hid hZ
    have HY := Lib.hid hY
    obtain ⟨q, hq⟩ : ∃ q, inR 0 10 ld = q := ⟨_, rfl⟩
    rw [hq]
    have Hq := Lib.hid hq
    clear hs he hr hb0 hZ hY hq
    rw [show ((m : Nat) : Int).toNat = m by omega]
    go_enter Try.func36, Try.ntmps36
    go_wp2_with fail
    refine hc.out.mono ?_
    rintro e w1 ⟨g, rfl, hb1, hg, hv⟩
    have hB1 := Below.later HB0.out hb1
    have hZ1 := HZ.out.later hb1
    have hY1 := HY.out.later hb1
    have z0 := hZ1.cell 0
    have z1 := hZ1.lt
    have HB1 := Lib.hid hB1
    have HZ1 := Lib.hid hZ1
    have HY1 := Lib.hid hY1
    clear hb1 hB1 hZ1 hY1 hv
    go_wp2_with fail
    refine (within_one 0 10 ld w1.heap.size _ (by simp) (by go_simp)).mono ?_
    rintro e w2 ⟨rfl, hb2⟩
    rw [Hq.out]
    have hal := balloc (brefl w1) (.cells #[.int .i64 ld] 2)
    have hB2 := Below.later (Below.later HB1.out hal) hb2
    have hZ2 := (HZ1.out.later hal).later hb2
    have hY2 := (HY1.out.later hal).later hb2
    have y0 := hY2.cell 0
    have y1 := hY2.cell 1
    have y2 := hY2.lt
    have HB2 := Lib.hid hB2
    have HZ2 := Lib.hid hZ2
    have HY2 := Lib.hid hY2
    clear hb2 hB2 hZ2 hY2 hal z0 z1
    cases q with
    | false =>
      go_wp2
      all_goals
        go_ret2
        exact ⟨_, rfl, HB2.out, World.ownsRow_nil _ _ _ _⟩
    | true =>
      have hli := Lib.hid (lists_any rs.length 70 #[.pointer (some ⟨w.heap.size, 0, none⟩), .pointer (some ⟨w.heap.size + 1, 0, none⟩)] (enters_of Try.func70 (by kernel_rfl) rfl) (fitsB rs m ld) Hr.out.1 w2 (fun l v W hb hl hx hn => by
        exact keep1_any w.heap.size (w.heap.size + 1) m A c rs ld w2.heap.size l v W (HY2.out.below hb HY2.out.lt) (HZ2.out.below hb HZ2.out.lt) ((Hs.out.later HB2.out).below hb |>.wider hb.size) Hr.out hL hl hx hn))
      go_wp2_with fail
      refine hli.out.mono ?_
      rintro e w3 ⟨ov, vs, rfl, hb3, hov⟩
      have HB3 := Lib.hid (Below.later HB2.out hb3)
      have Hov := Lib.hid hov
      have HS2 := Lib.hid HB2.out.size
      clear hb3 hov hli y0 y1 y2
      go_wp2_with fail
      refine (bestL_any w2.heap.size [] _ ov vs _ Hov.out).mono ?_
      rintro e w4 ⟨v, rfl, hlv, hb4⟩
      have HB4 := Lib.hid (Below.later HB3.out hb4)
      have Hlv := Lib.hid (show ListV w4 w.heap.size _ v from own_low hlv HS2.out)
      clear hlv hb4
      go_wp2
      go_ret2
      exact ⟨v, rfl, HB4.out, Hlv.out⟩
  · unfold keepV keepE
    rw [if_neg he, if_neg he]
    refine (keep_bad L A _ c rs ld w hs he).mono ?_
    rintro e w' ⟨rfl, hb⟩
    exact ⟨_, rfl, hb, World.ownsRow_nil _ _ _ _⟩
end Go.Proofs.Ytbbdlebmagknmaa
