/- The document's Given, CheckFill. -/
import Derived.Test.YtmfiggbobaihcaaGRefG
namespace Go.Proofs.Ytmfiggbobaihcaa
open Go.RowKit Go.Shelf

/-- What is given of each grade. -/
def givL (n : Nat) (X : List (List Int)) : List Int := (List.range n).map (gotX X)
theorem numArr_eq (n : Nat) (F : Nat → Int) : numArr n F = (((List.range n).map F).map (Value.int .i64)).toArray := by unfold numArr; rw [List.map_map]; rfl
/-- While what is given is counted. -/
structure GI (w W : World) (n : Nat) (SA : Option Addr) (sn sc : Nat) (PA : Option Addr) (pn pc : Nat) (OA : Option Addr) (on oc : Nat) (S P : List Int) (O : List Od) (F : Nat → Int) : Prop where
  gw : GW w W w.heap.size SA sn sc PA pn pc OA on oc S P O
  bk : Blk W (w.heap.size + 1) 2 (numArr n F)
section
variable {w W W' : World} {n : Nat} {SA : Option Addr} {sn sc : Nat} {PA : Option Addr} {pn pc : Nat} {OA : Option Addr} {on oc : Nat} {S P : List Int} {O : List Od} {F : Nat → Int}
theorem GI.later (h : GI w W n SA sn sc PA pn pc OA on oc S P O F) (hb : Below W.heap.size W W') : GI w W' n SA sn sc PA pn pc OA on oc S P O F := ⟨h.gw.later hb, h.bk.later hb⟩
theorem GI.set (hs : ShopIn w w.heap.size SA sn sc PA pn pc OA on oc S P O) (h : GI w W n SA sn sc PA pn pc OA on oc S P O F) (g : Nat) (v : Int) : GI w (W.setCell ⟨w.heap.size + 1, g, none⟩ (.int .i64 v)) n SA sn sc PA pn pc OA on oc S P O (Gr9.upd F g v) := by
  have hb := bset h.gw.bel (p := ⟨w.heap.size + 1, g, none⟩) (by show w.heap.size ≤ w.heap.size + 1; omega) (.int .i64 v)
  refine ⟨⟨hb, h.gw.b0.other (by show w.heap.size + 1 ≠ w.heap.size; omega) _, hs.later hb⟩, ?_⟩
  have h1 := h.bk.set g (.int .i64 v)
  rw [numArr_set] at h1
  exact h1
end
set_option maxRecDepth 100000 in
set_option maxHeartbeats 8000000 in
theorem refGiven_any (SA : Option Addr) (sn sc : Nat) (PA : Option Addr) (pn pc : Nat) (OA : Option Addr) (on oc : Nat) (S P : List Int) (O : List Od) (FA : Option Addr) (fn fc : Nat) (L : List Rw) (w : World) (hs : ShopIn w w.heap.size SA sn sc PA pn pc OA on oc S P O) (hl : FillIn w FA fn fc L) (h5 : S.length ≤ 5) (h8 : L.length ≤ 100) (hrow : ∀ x ∈ rowsX L, x.length = S.length) (hsm : ∀ x ∈ rowsX L, ∀ y ∈ x, 0 ≤ y ∧ y ≤ 20) : Calls Try.prog 48 #[.agg #[.slice SA sn sc, .slice PA pn pc, .slice OA on oc], .slice FA fn fc] w fun e w' => ∃ b, e = .returned (.slice (some ⟨b, 0, none⟩) S.length S.length) ∧ Below w.heap.size w w' ∧ Sl 1 encI w' w'.heap.size (some ⟨b, 0, none⟩) S.length S.length (givL S.length (rowsX L)) := by
  have Hs := Lib.hid hs
  obtain rfl := hs.stk.len
  obtain rfl := hs.prc.len
  obtain rfl := hs.ord.len
  have HG0 := Lib.hid (GW.start hs)
  obtain ⟨g0, g1, g2, g3⟩ := HG0.out.cells
  obtain rfl := hl.sl.len
  have Hl := Lib.hid hl
  have Hrow := Lib.hid hrow
  have Hsm := Lib.hid hsm
  have hmk := make_longs S.length (by omega)
  have hbn := Blk.new (w.alloc (.cells #[.slice SA S.length sc, .slice PA P.length pc, .slice OA O.length oc] 25)) 2 (numArr S.length (fun _ => 0))
  rw [World.size_alloc] at hbn
  have HI0 := Lib.hid (show GI w ((w.alloc (.cells #[.slice SA S.length sc, .slice PA P.length pc, .slice OA O.length oc] 25)).alloc (.cells (numArr S.length (fun _ => 0)) 2)) S.length SA S.length sc PA P.length pc OA O.length oc S P O (gotP (rowsX L) 0) from ⟨HG0.out.later (balloc (brefl _) _), hbn⟩)
  clear hs hl hrow hsm hbn HG0
  go_enter Try.func48, Try.ntmps48
  go_wp2_with fail
  clear hmk
  refine loop_n (fun m b W => b.defers = [] ∧ ∃ i : Nat, i + m = L.length ∧ Hid (GI w W S.length SA S.length sc PA P.length pc OA O.length oc S P O (gotP (rowsX L) i)) ∧ Fits (none :: some (.slice FA L.length fc) :: some (.pointer (some ⟨w.heap.size, 0, none⟩)) :: none :: none :: some (.slice (some ⟨w.heap.size + 1, 0, none⟩) S.length S.length) :: some (.int .i64 (i : Nat)) :: none :: none :: none :: none :: none :: none :: none :: none :: none :: none :: none :: none :: none :: none :: none :: none :: none :: none :: none :: none :: none :: none :: none :: none :: none :: none :: none :: none :: none :: none :: none :: []) b.tmps.toList) L.length ?_ ?_
  · refine ⟨rfl, 0, by omega, HI0, ?_⟩
    repeat (first | exact fits_nil | refine fits_none ?_ | refine fits_some ?_)
  clear HI0 g0 g1 g2 g3
  intro m b W hI K hK
  obtain ⟨hds, i, him, HI, hfit⟩ := hI
  obtain ⟨f, hf⟩ := fits_act hfit
  rw [hds] at hf
  subst hf
  clear hfit hds
  simp only [fillP, Nat.reduceAdd]
  by_cases hlt : i < L.length
  · obtain ⟨rb, ro, r, rfl, hrb, hr, -⟩ := (Hl.out.later HI.out.gw.bel).sl.ltW (i := i) hlt
    have i1 : (i : Int) < (L.length : Int) := by omega
    have i2 : (0 : Int) ≤ (i : Int) := by omega
    have i3 : IntKind.i64.wrap ((i : Int) + 1) = (i : Int) + 1 := by rw [IntKind.wrap_i64]; omega
    have Him := Lib.hid (show i + m = L.length ∧ i < L.length from ⟨him, hlt⟩)
    have hrx := rows_at hr
    have hrn : r.n = S.length := by
      have h1 := Hrow.out _ (List.mem_of_getElem? hrx)
      rw [← rows_len Hl.out (List.mem_of_getElem? hr)]
      exact h1
    obtain ⟨rA, rn, rc, rxs⟩ := r
    simp only at hrn hrx
    subst hrn
    have Hr := Lib.hid (Hl.out.rows _ (List.mem_of_getElem? hr))
    have Hrx := Lib.hid hrx
    have HLi := Lib.hid hr
    have HI1 := Lib.hid (show GI w W S.length SA S.length sc PA P.length pc OA O.length oc S P O (mixG (rowsX L) i 0) by rw [mixG_zero]; exact HI.out)
    clear him hlt hr hrx hrb
    go_wp2_with fail
    refine loop_n (fun q b W => b.defers = [] ∧ ∃ g : Nat, g + q = S.length ∧ Hid (GI w W S.length SA S.length sc PA P.length pc OA O.length oc S P O (mixG (rowsX L) i g)) ∧ Fits (none :: some (.slice (some ⟨rb, ro, none⟩) L.length fc) :: some (.pointer (some ⟨w.heap.size, 0, none⟩)) :: none :: none :: some (.slice (some ⟨w.heap.size + 1, 0, none⟩) S.length S.length) :: some (.int .i64 (i : Nat)) :: some (.int .i64 (g : Nat)) :: none :: none :: none :: none :: none :: none :: none :: none :: none :: none :: none :: none :: none :: none :: none :: none :: none :: none :: none :: none :: none :: none :: none :: none :: none :: none :: none :: none :: none :: none :: []) b.tmps.toList) S.length ?_ ?_
    · refine ⟨rfl, 0, by omega, HI1, ?_⟩
      repeat (first | exact fits_nil | refine fits_none ?_ | refine fits_some ?_)
    clear HI HI1
    clear W
    intro q b W hI K2 hK2
    obtain ⟨hds, g, hgq, HI, hfit⟩ := hI
    obtain ⟨f2, hf2⟩ := fits_act hfit
    rw [hds] at hf2
    subst hf2
    clear hfit hds
    simp only [fillP, Nat.reduceAdd]
    by_cases hlt : g < S.length
    · obtain ⟨rb2, ro2, r2, hA2, hrb2, hr2, p0⟩ := (Hl.out.later HI.out.gw.bel).sl.ltW (i := i) Him.out.2
      simp only [Option.some.injEq, Addr.mk.injEq, and_true] at hA2
      obtain ⟨rfl, rfl⟩ := hA2
      rw [HLi.out] at hr2
      cases hr2
      simp only at p0
      obtain ⟨xb, xo, x, rfl, hxb, hx, q0⟩ := (Hr.out.later HI.out.gw.bel).ltI (i := g) hlt
      have hfx := fX_at Hrx.out hx
      have hxb2 := Hsm.out _ (List.mem_of_getElem? Hrx.out) x (List.mem_of_getElem? hx)
      have hmb := mixG_bound Hsm.out i g g
      have hst2 := mixG_step (rowsX L) i g
      rw [hfx] at hst2
      have c0 := (HI.out.bk.cell g).trans (numArr_get hlt)
      have c1 := HI.out.bk.frozen g
      have c2 := HI.out.bk.lt
      have j1 : (g : Int) < (S.length : Int) := by omega
      have j2 : (0 : Int) ≤ (g : Int) := by omega
      have j3 : IntKind.i64.wrap ((g : Int) + 1) = (g : Int) + 1 := by rw [IntKind.wrap_i64]; omega
      have j4 : (i : Int) < (L.length : Int) := by have := Him.out; omega
      have j5 : (0 : Int) ≤ (i : Int) := by omega
      have j6 : IntKind.i64.wrap (mixG (rowsX L) i g g + x) = mixG (rowsX L) i g g + x := by have := Him.out; rw [IntKind.wrap_i64]; omega
      have Hgq := Lib.hid (show g + q = S.length ∧ g < S.length from ⟨hgq, hlt⟩)
      have Hst2 := Lib.hid hst2
      generalize mixG (rowsX L) i g g = mx at *
      clear hgq hlt hx hfx hxb2 hmb hst2
      go_wp2_with fail
      refine dag 13 (by kernel_rfl) (by kernel_rfl) (.is ?_ :: .is ?_ :: .is ?_ :: .is ?_ :: .is ?_ :: .is ?_ :: .is ?_ :: .is ?_ :: .is ?_ :: .is ?_ :: .is ?_ :: .is ?_ :: .is ?_ :: []) rfl ?st1 ?ob1
      case st1 => simp [Spec.ok]
      case ob1 =>
        intro env V hG
        obtain ⟨hc, hf⟩ := bcell hG
        repeat (refine obls_is ?_ ?_; unfold doesAt; go_simp; (try go_bits); (first | (refine ⟨brefl _, ?_⟩; rfl) | rfl); intro K hK; go_simp; refine hK _ ?_; clear hK K)
        refine obls_last (fun _ => ?_)
        have HIn := Lib.hid (HI.out.later hG)
        have d0 := (HI.out.bk.later hG).cell g
        have d1 := HIn.out.bk.frozen g
        have d2 := HIn.out.bk.lt
        have HIf := Lib.hid (show GI w (V.setCell ⟨w.heap.size + 1, g, none⟩ (.int .i64 (mx + x))) S.length _ S.length sc PA P.length pc OA O.length oc S P O (mixG (rowsX L) i (g + 1)) by rw [Hst2.out]; exact HIn.out.set Hs.out g (mx + x))
        rw [numArr_get Hgq.out.2] at d0
        clear hc hf hG c0 c1 c2 p0 q0
        unfold doesAt
        go_simp
        clear d0 d1 d2
        generalize V.setCell ⟨w.heap.size + 1, g, none⟩ (.int .i64 (mx + x)) = V2 at *
        go_wp2
        refine hK2 _ _ (q - 1) (by have := Hgq.out; omega) ⟨rfl, g + 1, by have := Hgq.out; omega, HIf, ?_⟩
        repeat (first | exact fits_nil | refine fits_none ?_ | refine fits_some ?_)
    · obtain rfl : g = S.length := by omega
      have j1 : ¬ (S.length : Int) < (S.length : Int) := by omega
      have hmx := mixG_all Hrx.out (Hrow.out _ (List.mem_of_getElem? Hrx.out))
      have HI2 := Lib.hid (show GI w W S.length SA S.length sc PA P.length pc OA O.length oc S P O (gotP (rowsX L) (i + 1)) by rw [← hmx]; exact HI.out)
      have j3 : IntKind.i64.wrap ((i : Int) + 1) = (i : Int) + 1 := by have := Him.out; rw [IntKind.wrap_i64]; omega
      clear hgq hlt hmx HI hK2
      go_wp2
      refine hK _ _ (m - 1) (by have := Him.out; omega) ⟨rfl, i + 1, by have := Him.out; omega, HI2, ?_⟩
      repeat (first | exact fits_nil | refine fits_none ?_ | refine fits_some ?_)
  · obtain rfl : i = L.length := by omega
    have i1 : ¬ (L.length : Int) < (L.length : Int) := by omega
    have hg5 : Blk W (w.heap.size + 1) 2 ((givL S.length (rowsX L)).map (Value.int .i64)).toArray := by
      have := HI.out.bk
      rw [numArr_eq] at this
      have h2 : gotP (rowsX L) L.length = gotX (rowsX L) := by unfold gotX; rw [rows_length]
      rw [h2] at this
      exact this
    have Hg5 := Lib.hid hg5
    clear him hlt hK hg5
    go_wp2
    go_ret
    exact ⟨_, rfl, HI.out.gw.bel, lit_sl Hg5.out Hg5.out.lt (by simp [givL]) (by omega)⟩
end Go.Proofs.Ytmfiggbobaihcaa
