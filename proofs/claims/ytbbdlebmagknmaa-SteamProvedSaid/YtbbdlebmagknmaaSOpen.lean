/- steam.open: the vat of a yard, or the error. -/
import Derived.Test.YtbbdlebmagknmaaSRefYard
namespace Go.Proofs.Ytbbdlebmagknmaa
open Go.RowKit Go.Shelf

section
variable (L : Int) (A : Option Addr) (n c : Nat) (rs : List Rg) (w : World) (hs : Sl 2 encR w w.heap.size A n c rs)
include hs
set_option maxHeartbeats 1000000 in
theorem open_bad (hne : yardE L rs ≠ 0) : Calls Try.prog 53 #[.agg #[.int .i64 L, .slice A n c]] w fun e w' => e = .returned (.tuple #[.pointer none, .int .i64 (yardE L rs)]) ∧ Below w.heap.size w w' := by
  obtain rfl := hs.len
  have HY := Lib.hid (show YB w (w.alloc (.cells #[.int .i64 L, .slice A rs.length c] 24)) L A rs.length c from ⟨balloc (brefl w) _, Blk.new w _ _⟩)
  have hc := Lib.hid (fun W hb => checkYard_any L A rs.length c rs W (hs.later (w' := W) hb))
  obtain ⟨q, hq⟩ : ∃ q, yardE L rs = q := ⟨_, rfl⟩
  rw [hq] at hc hne ⊢
  have d1 : (q != 0) = true := by simpa using hne
  clear hs hq hne
  go_enter Try.func53, Try.ntmps53
  go_wp2_with fail
  refine (hc.out _ HY.out.bel).mono ?_
  rintro e w1 ⟨rfl, hb1⟩
  have HY1 := Lib.hid (HY.out.later hb1)
  clear hb1
  go_wp2
  go_ret2
  exact ⟨rfl, HY1.out.bel⟩
set_option maxHeartbeats 1000000 in
theorem open_ok (he : yardE L rs = 0) : Calls Try.prog 53 #[.agg #[.int .i64 L, .slice A n c]] w fun e w' => ∃ g, e = .returned (.tuple #[.pointer (some ⟨g, 0, none⟩), .int .i64 0]) ∧ Below w.heap.size w w' ∧ w.heap.size ≤ g ∧ Blk w' g 87 #[.int .i64 L, .slice A n c] := by
  obtain rfl := hs.len
  have HY := Lib.hid (show YB w (w.alloc (.cells #[.int .i64 L, .slice A rs.length c] 24)) L A rs.length c from ⟨balloc (brefl w) _, Blk.new w _ _⟩)
  have hc := Lib.hid (fun W hb => checkYard_any L A rs.length c rs W (hs.later (w' := W) hb))
  rw [he] at hc
  clear hs he
  go_enter Try.func53, Try.ntmps53
  go_wp2_with fail
  refine (hc.out _ HY.out.bel).mono ?_
  rintro e w1 ⟨rfl, hb1⟩
  have hY1 := HY.out.later hb1
  have c0 := hY1.b0.cell 0
  have c1 := hY1.b0.cell 1
  have c2 := hY1.b0.lt
  have HY1 := Lib.hid hY1
  have HN := Lib.hid (Blk.new w1 87 #[.int .i64 L, .slice A rs.length c])
  clear hb1 hY1
  go_wp2
  go_ret2
  exact ⟨w1.heap.size, rfl, balloc HY1.out.bel _, HY1.out.bel.size, HN.out⟩
end
/-- A number divided by another one, rounded up. -/
def upI (x L : Int) : Int := (x + L - 1) / L
theorem upI_facts {x L : Int} (hL : 1 ≤ L ∧ L ≤ 10) (hx : 0 ≤ x ∧ x ≤ 1000) : IntKind.i64.wrap (x + L) = x + L ∧ IntKind.i64.wrap (x + L - 1) = x + L - 1 ∧ (x + L - 1).tdiv L = upI x L ∧ L ≠ 0 ∧ IntKind.i64.wrap (upI x L) = upI x L ∧ 0 ≤ upI x L ∧ upI x L ≤ 1010 := by
  have h1 : (x + L - 1).tdiv L = upI x L := Int.tdiv_eq_ediv_of_nonneg (by omega)
  have h2 : 0 ≤ upI x L := Int.ediv_nonneg (by omega) (by omega)
  have h3 : upI x L ≤ x + L - 1 := Int.ediv_le_self _ (by omega)
  refine ⟨by rw [IntKind.wrap_i64]; omega, by rw [IntKind.wrap_i64]; omega, h1, by omega, by rw [IntKind.wrap_i64]; omega, h2, by omega⟩
set_option maxRecDepth 100000 in
set_option maxHeartbeats 1000000 in
theorem up_any (g : Nat) (L : Int) (A : Option Addr) (n c : Nat) (x : Int) (w : World) (hb : Blk w g 87 #[.int .i64 L, .slice A n c]) (hL : 1 ≤ L ∧ L ≤ 10) (hx : 0 ≤ x ∧ x ≤ 1000) :
    Calls Try.prog 78 #[.pointer (some ⟨g, 0, none⟩), .int .i64 x] w fun e w' => e = .returned (.int .i64 (upI x L)) ∧ Below w.heap.size w w' := by
  obtain ⟨a1, a2, a3, a4, a5, _, _⟩ := upI_facts hL hx
  obtain ⟨q, hq⟩ : ∃ q, upI x L = q := ⟨_, rfl⟩
  rw [hq] at a3 a5 ⊢
  have c0 := hb.cell 0
  have c2 := hb.lt
  clear hb hL hx hq
  go_enter Try.func78, Try.ntmps78
  go_wp2_with fail
  refine dag 15 (by kernel_rfl) (by kernel_rfl) (.is ?_ :: .is ?_ :: .is ?_ :: .is ?_ :: .is ?_ :: .is ?_ :: .is ?_ :: .is ?_ :: .is ?_ :: .is ?_ :: .is ?_ :: .is ?_ :: .is ?_ :: .is ?_ :: .is ?_ :: []) rfl ?st1 ?ob1
  case st1 => simp [Spec.ok]
  case ob1 =>
    intro env W' hG
    obtain ⟨hc, hf⟩ := bcell hG
    repeat (refine obls_is ?_ ?_; unfold doesAt; go_simp; (try go_bits); (first | (refine ⟨brefl _, ?_⟩; rfl) | rfl); intro K hK; go_simp; refine hK _ ?_; clear hK K)
    refine obls_nil (fun _ => ?_)
    have HB := Lib.hid hG
    clear hc hf hG
    go_wp2
    go_ret
    exact ⟨rfl, HB.out⟩
set_option maxHeartbeats 1000000 in
theorem refUp_any (L x : Int) (w : World) (hL : 1 ≤ L ∧ L ≤ 10) (hx : 0 ≤ x ∧ x ≤ 1000) :
    Calls Try.prog 79 #[.int .i64 x, .int .i64 L] w fun e w' => e = .returned (.int .i64 (upI x L)) ∧ Below w.heap.size w w' := by
  obtain ⟨a1, a2, a3, a4, a5, _, _⟩ := upI_facts hL hx
  obtain ⟨q, hq⟩ : ∃ q, upI x L = q := ⟨_, rfl⟩
  rw [hq] at a3 a5 ⊢
  clear hL hx hq
  go_enter Try.func79, Try.ntmps79
  go_wp2
  go_ret
  exact ⟨rfl, brefl _⟩
end Go.Proofs.Ytbbdlebmagknmaa
