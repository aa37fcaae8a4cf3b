/- The document's Cost, SpentOf, LeastOf, filled, Spent, Least. -/
import Derived.Test.YtmfiggbobaihcaaGRefA
namespace Go.Proofs.Ytmfiggbobaihcaa
open Go.RowKit Go.Shelf

/-- What so many sheets cost. -/
def costX (P xs : List Int) : Int := costL P (stockM xs) xs.length
section
variable (SA : Option Addr) (sn sc : Nat) (PA : Option Addr) (pn pc : Nat) (OA : Option Addr) (on oc : Nat) (S P : List Int) (O : List Od) (w : World) (hs : ShopIn w w.heap.size SA sn sc PA pn pc OA on oc S P O)
include hs
set_option maxRecDepth 100000 in
set_option maxHeartbeats 2000000 in
theorem refCost_any (A : Option Addr) (n c : Nat) (xs : List Int) (hx : Sl 1 encI w w.heap.size A n c xs) (hn : n ≤ P.length) (h5 : P.length ≤ 5) (hP : ∀ x ∈ P, 0 ≤ x ∧ x ≤ 100) (hX : ∀ x ∈ xs, 0 ≤ x ∧ x ≤ 1000) :
    Calls Try.prog 47 #[.agg #[.slice SA sn sc, .slice PA pn pc, .slice OA on oc], .slice A n c] w fun e w' => e = .returned (.int .i64 (costX P xs)) ∧ Below w.heap.size w w' := by
  obtain rfl := hs.stk.len
  obtain rfl := hs.prc.len
  obtain rfl := hs.ord.len
  have HG0 := Lib.hid (GW.start hs)
  obtain ⟨g0, g1, g2, g3⟩ := HG0.out.cells
  obtain rfl := hx.len
  have Hx := Lib.hid hx
  have HP := Lib.hid hP
  have HF := Lib.hid (fun j => stockM_bound hX (by omega) j)
  clear hs hx hP hX
  go_enter Try.func47, Try.ntmps47
  go_wp2_with fail
  refine loop_n (fun m b W => b.defers = [] ∧ ∃ i : Nat, i + m = xs.length ∧ Hid (GW w W w.heap.size SA S.length sc PA P.length pc OA O.length oc S P O) ∧ Fits (none :: some (.slice A xs.length c) :: some (.pointer (some ⟨w.heap.size, 0, none⟩)) :: none :: none :: some (.int .i64 (costL P (stockM xs) i)) :: some (.int .i64 (i : Nat)) :: none :: none :: none :: none :: none :: none :: none :: none :: none :: none :: none :: none :: none :: none :: none :: none :: none :: none :: none :: []) b.tmps.toList) xs.length ?_ ?_
  · refine ⟨rfl, 0, by omega, HG0, ?_⟩
    repeat (first | exact fits_nil | refine fits_none ?_ | refine fits_some ?_)
  clear HG0 g0 g1 g2 g3
  intro m b W hI K hK
  obtain ⟨hds, i, him, HG1, hfit⟩ := hI
  obtain ⟨f, hf⟩ := fits_act hfit
  rw [hds] at hf
  subst hf
  clear hfit hds
  simp only [fillP, Nat.reduceAdd]
  obtain ⟨g0, g1, g2, g3⟩ := HG1.out.cells
  by_cases hlt : i < xs.length
  · obtain ⟨rb, ro, x, rfl, hrb, hx, p0⟩ := (Hx.out.later HG1.out.bel).ltI (i := i) hlt
    obtain ⟨qb, qo, y, rfl, hqb, hy, q0⟩ := HG1.out.sh.prc.ltI (i := i) (by omega)
    have hb := costL_bound HP.out i (fun j hj => HF.out j)
    have hb2 := costL_bound HP.out (i + 1) (fun j hj => HF.out j)
    have hs : costL P (stockM xs) (i + 1) = costL P (stockM xs) i + x * y := by rw [costL, sl_getD hy, stockM_at hx, Int.mul_comm]
    rw [hs] at hb2
    have hx1 := HF.out i
    rw [stockM_at hx] at hx1
    have hy1 := HP.out y (List.mem_of_getElem? hy)
    have hm := mul_bound hx1 hy1
    have i1 : (i : Int) < (xs.length : Int) := by omega
    have i2 : (0 : Int) ≤ (i : Int) := by omega
    have i3 : IntKind.i64.wrap ((i : Int) + 1) = (i : Int) + 1 := by rw [IntKind.wrap_i64]; omega
    have i4 : (i : Int) < (P.length : Int) := by omega
    have i5 : IntKind.i64.wrap (x * y) = x * y := by rw [IntKind.wrap_i64]; omega
    have i6 : IntKind.i64.wrap (costL P (stockM xs) i + x * y) = costL P (stockM xs) i + x * y := by rw [IntKind.wrap_i64]; omega
    have Him := Lib.hid (show i + m = xs.length ∧ i < xs.length from ⟨him, hlt⟩)
    have Hs := Lib.hid hs
    generalize costL P (stockM xs) i = q at *
    clear hs hb hb2 hx1 hy1 hm hx hy him hlt
    go_wp2_with fail
    refine dag 13 (by kernel_rfl) (by kernel_rfl) (.is ?_ :: .is ?_ :: .is ?_ :: .is ?_ :: .is ?_ :: .is ?_ :: .is ?_ :: .is ?_ :: .is ?_ :: .is ?_ :: .is ?_ :: .is ?_ :: .is ?_ :: []) rfl ?st1 ?ob1
    case st1 => simp [Spec.ok]
    case ob1 =>
      intro env V hG
      obtain ⟨hc, hf⟩ := bcell hG
      repeat (refine obls_is ?_ ?_; unfold doesAt; go_simp; (try go_bits); (first | (refine ⟨brefl _, ?_⟩; rfl) | rfl); intro K hK; go_simp; refine hK _ ?_; clear hK K)
      refine obls_nil (fun _ => ?_)
      have HG2 := Lib.hid (HG1.out.later hG)
      clear hc hf hG g0 g1 g2 g3 p0 q0
      go_wp2
      refine hK _ _ (m - 1) (by have := Him.out; omega) ⟨rfl, i + 1, by have := Him.out; omega, HG2, ?_⟩
      rw [Hs.out]
      repeat (first | exact fits_nil | refine fits_none ?_ | refine fits_some ?_)
  · obtain rfl : i = xs.length := by omega
    have i1 : ¬ (xs.length : Int) < (xs.length : Int) := by omega
    generalize hq : costL P (stockM xs) xs.length = q at *
    have Hq := Lib.hid (show costX P xs = q from hq)
    clear hq him hlt hK
    go_wp2
    go_ret
    exact ⟨ret_int Hq.out.symm, HG1.out.bel⟩
end
theorem mostTo_bound {M : Nat → Int} {O : List Od} {b : Int} {g : Nat} (hM : ∀ j, 0 ≤ M j ∧ M j ≤ b) (h8 : O.length ≤ 8) (hO : ∀ o ∈ O, 0 ≤ o.m ∧ o.m ≤ 20) : ∀ j, 0 ≤ Gr9.mostTo M (aO O) g j ∧ Gr9.mostTo M (aO O) g j ≤ 160
  | 0 => ⟨Int.le_refl _, by simp [Gr9.mostTo]⟩
  | j + 1 => by
    have h1 := mostTo_bound hM h8 hO (g := g) j
    have h2 := askI_bound O ((g + j : Nat) : Int) hO
    have h3 : aO O (g + j) = askI O ((g + j : Nat) : Int) := rfl
    have h4 := Gr9.pre_mono (fun i => (hM i).1) (show g + 1 ≤ g + j + 1 by omega)
    unfold Gr9.mostTo
    omega
theorem spV_step (n : Nat) (O : List Od) (M : Nat → Int) (g : Nat) : spV n O M g = Gr9.mostG M (aO O) n g - Gr9.pre (spV n O M) g := by
  have h1 := Gr9.spentT_pre M (aO O) n g
  have h2 : Gr9.pre (spV n O M) (g + 1) = Gr9.pre (spV n O M) g + spV n O M g := rfl
  have h3 : Gr9.pre (Gr9.spentT M (aO O) n) (g + 1) = Gr9.pre (spV n O M) (g + 1) := rfl
  omega
theorem max_if (q r : Int) : (if q < r then r else q) = max q r := by
  split <;> omega
/-- While what is spent is gathered. -/
structure SPW (w W : World) (SA : Option Addr) (sn sc : Nat) (PA : Option Addr) (pn pc : Nat) (OA : Option Addr) (on oc : Nat) (S P : List Int) (O : List Od) (v : Value) (xs : List Int) : Prop where
  gw : GW w W w.heap.size SA sn sc PA pn pc OA on oc S P O
  own : W.ownsRow (w.heap.size + 1) 2 1 v xs.length (xs.map (Value.int .i64))
section
variable {w W W' : World} {SA : Option Addr} {sn sc : Nat} {PA : Option Addr} {pn pc : Nat} {OA : Option Addr} {on oc : Nat} {S P : List Int} {O : List Od} {v v' : Value} {xs : List Int}
theorem SPW.later (h : SPW w W SA sn sc PA pn pc OA on oc S P O v xs) (hb : Below W.heap.size W W') : SPW w W' SA sn sc PA pn pc OA on oc S P O v xs := ⟨h.gw.later hb, own_later h.own hb⟩
theorem SPW.app (hs : ShopIn w w.heap.size SA sn sc PA pn pc OA on oc S P O) (h : SPW w W SA sn sc PA pn pc OA on oc S P O v xs) {x : Int} (hg : W.grownBy W' v.ownBlock) (ho : W'.ownsRow (w.heap.size + 1) 2 1 v' (xs.length + 1) (xs.map (Value.int .i64) ++ [.int .i64 x])) : SPW w W' SA sn sc PA pn pc OA on oc S P O v' (xs ++ [x]) := by
  have hlt := own_base h.own
  have hb : Below w.heap.size w W' := h.gw.bel.trans ⟨hg.os, hg.tape, hg.output, hg.size, fun k hk => hg.block k (by have := h.gw.bel.size; omega) (fun e => by have := hlt k e.symm; omega)⟩
  refine ⟨h.gw.row hs hb hg (fun e => by have := hlt _ e; omega), by simpa using ho⟩
end
set_option maxRecDepth 100000 in
set_option maxHeartbeats 8000000 in
theorem refSpentOf_any (SA : Option Addr) (sn sc : Nat) (PA : Option Addr) (pn pc : Nat) (OA : Option Addr) (on oc : Nat) (S P : List Int) (O : List Od) (w : World) (hs : ShopIn w w.heap.size SA sn sc PA pn pc OA on oc S P O) (h1 : 1 ≤ S.length) (h5 : S.length ≤ 5) (h8 : O.length ≤ 8) (hO : ∀ o ∈ O, 0 ≤ o.m ∧ o.m ≤ 20) (hS : ∀ x ∈ S, 0 ≤ x ∧ x ≤ 150) :
    Calls Try.prog 69 #[.agg #[.slice SA sn sc, .slice PA pn pc, .slice OA on oc]] w fun e w' => ∃ A c, e = .returned (.slice A S.length c) ∧ Below w.heap.size w w' ∧ Sl 1 encI w' w'.heap.size A S.length c (spL S.length O (stockM S)) := by
  have Hs := Lib.hid hs
  obtain rfl := hs.stk.len
  obtain rfl := hs.prc.len
  obtain rfl := hs.ord.len
  have HG0 := Lib.hid (GW.start hs)
  obtain ⟨g0, g1, g2, g3⟩ := HG0.out.cells
  have HM := Lib.hid (fun j => stockM_bound hS (by omega) j)
  have Hask := Lib.hid (fun (k : Nat) W (h : ShopIn W W.heap.size SA S.length sc PA P.length pc OA O.length oc S P O) => refAsked_any SA S.length sc PA P.length pc OA O.length oc S P O W h (k : Int) h8 hO)
  have Hsum := Lib.hid (fun (g k : Nat) (hgk : g ≤ k) (hk : k < S.length) W (h : ShopIn W W.heap.size SA S.length sc PA P.length pc OA O.length oc S P O) => refSum_any SA S.length sc S (g + 1) (k + 1) (k : Int) W h.stk (by omega) (by omega) (by omega) (by omega) hS)
  have HO := Lib.hid hO
  have HW0 := Lib.hid (show SPW w (w.alloc (.cells #[.slice SA S.length sc, .slice PA P.length pc, .slice OA O.length oc] 25)) SA S.length sc PA P.length pc OA O.length oc S P O (.slice none 0 0) [] from ⟨HG0.out, World.ownsRow_nil _ _ _ _⟩)
  clear hs hO hS HG0
  go_enter Try.func69, Try.ntmps69
  go_wp2_with fail
  refine loop_n (fun m b W => b.defers = [] ∧ ∃ (i : Nat) (v : Value), i + m = S.length ∧ Hid (SPW w W SA S.length sc PA P.length pc OA O.length oc S P O v ((List.range i).map (spV S.length O (stockM S)))) ∧ Fits (none :: some (.pointer (some ⟨w.heap.size, 0, none⟩)) :: none :: some (v) :: some (.int .i64 (Gr9.pre (spV S.length O (stockM S)) i)) :: some (.int .i64 (i : Nat)) :: none :: none :: none :: none :: none :: none :: none :: none :: none :: none :: none :: none :: none :: none :: none :: none :: none :: none :: none :: none :: none :: none :: none :: none :: none :: none :: none :: none :: none :: none :: none :: none :: none :: none :: none :: none :: none :: []) b.tmps.toList) S.length ?_ ?_
  · refine ⟨rfl, 0, _, by omega, HW0, ?_⟩
    repeat (first | exact fits_nil | refine fits_none ?_ | refine fits_some ?_)
  clear HW0 g0 g1 g2 g3
  intro m b W hI K hK
  obtain ⟨hds, i, v, him, HW, hfit⟩ := hI
  obtain ⟨f, hf⟩ := fits_act hfit
  rw [hds] at hf
  subst hf
  clear hfit hds
  simp only [fillP, Nat.reduceAdd]
  obtain ⟨g0, g1, g2, g3⟩ := HW.out.gw.cells
  by_cases hlt : i < S.length
  · have i1 : (i : Int) < (S.length : Int) := by omega
    have i2 : (0 : Int) ≤ (i : Int) := by omega
    have i3 : IntKind.i64.wrap ((i : Int) + 1) = (i : Int) + 1 := by rw [IntKind.wrap_i64]; omega
    have Him := Lib.hid (show i + m = S.length ∧ i < S.length from ⟨him, hlt⟩)
    generalize hxs : (List.range i).map (spV S.length O (stockM S)) = xs at *
    have hxl : xs.length = i := by rw [← hxs]; simp
    have hbf : ∃ j, Gr9.pre (spV S.length O (stockM S)) i = Gr9.mostTo (stockM S) (aO O) (i - 1) j := by
      rcases Nat.eq_zero_or_pos i with h0 | h0
      · subst h0; exact ⟨0, rfl⟩
      · obtain ⟨k, rfl⟩ : ∃ k, i = k + 1 := ⟨i - 1, by omega⟩
        exact ⟨S.length - k, by rw [show k + 1 - 1 = k by omega]; exact Gr9.spentT_pre _ _ _ _⟩
    obtain ⟨jb, hjb⟩ := hbf
    have hbb := mostTo_bound (g := i - 1) HM.out h8 HO.out jb
    rw [← hjb] at hbb
    have Hbb := Lib.hid hbb
    have HT := Lib.hid (show (List.range (i + 1)).map (spV S.length O (stockM S)) = xs ++ [spV S.length O (stockM S) i] by rw [List.range_succ, List.map_append, hxs]; rfl)
    have Hsp := Lib.hid (spV_step S.length O (stockM S) i)
    have Hpr := Lib.hid (show Gr9.pre (spV S.length O (stockM S)) (i + 1) = Gr9.mostG (stockM S) (aO O) S.length i from Gr9.spentT_pre _ _ _ _)
    generalize Gr9.pre (spV S.length O (stockM S)) i = bf at *
    have Hxl := Lib.hid hxl
    clear hxs hxl hjb hbb him hlt
    go_wp2_with fail
    refine loop_n (fun q b W => b.defers = [] ∧ ∃ j : Nat, i + j + q = S.length ∧ Hid (SPW w W SA S.length sc PA P.length pc OA O.length oc S P O v xs) ∧ Fits (none :: some (.pointer (some ⟨w.heap.size, 0, none⟩)) :: none :: some (v) :: some (.int .i64 bf) :: some (.int .i64 (i : Nat)) :: some (.int .i64 (Gr9.mostTo (stockM S) (aO O) i j)) :: some (.int .i64 ((i + j : Nat) : Int)) :: none :: none :: none :: none :: none :: none :: none :: none :: none :: none :: none :: none :: none :: none :: none :: none :: none :: none :: none :: none :: none :: none :: none :: none :: none :: none :: none :: none :: none :: none :: none :: none :: none :: none :: none :: []) b.tmps.toList) (S.length - i) ?_ ?_
    · refine ⟨rfl, 0, by have := Him.out; omega, HW, ?_⟩
      repeat (first | exact fits_nil | refine fits_none ?_ | refine fits_some ?_)
    clear HW g0 g1 g2 g3
    clear W
    intro q b W hI K2 hK2
    obtain ⟨hds, j, hjq, HW, hfit⟩ := hI
    obtain ⟨f2, hf2⟩ := fits_act hfit
    rw [hds] at hf2
    subst hf2
    clear hfit hds
    simp only [fillP, Nat.reduceAdd]
    obtain ⟨g0, g1, g2, g3⟩ := HW.out.gw.cells
    by_cases hlt : i + j < S.length
    · obtain ⟨k, hk⟩ : ∃ k, i + j = k := ⟨_, rfl⟩
      rw [hk] at hlt hjq ⊢
      have hb1 := mostTo_bound (g := i) HM.out h8 HO.out j
      have hb2 := askI_bound O (k : Int) HO.out
      have hb3 := sumN_bound (M := stockM S) (b := 150) (k + 1) (fun j _ => HM.out j)
      have hb4 := sumN_bound (M := stockM S) (b := 150) (i + 1) (fun j _ => HM.out j)
      have hst : Gr9.mostTo (stockM S) (aO O) i (j + 1) = max (Gr9.mostTo (stockM S) (aO O) i j) (askI O (k : Int) - (sumN (stockM S) (k + 1) - sumN (stockM S) (i + 1))) := by
        rw [Gr9.mostTo, hk, sumN_pre, sumN_pre]; rfl
      have Hask1 := Lib.hid (Hask.out k)
      have Hsum1 := Lib.hid (Hsum.out i k (by omega) hlt)
      have hr : -1000 ≤ sumN (stockM S) (k + 1) - sumN (stockM S) (i + 1) ∧ sumN (stockM S) (k + 1) - sumN (stockM S) (i + 1) ≤ 1000 := by omega
      generalize Gr9.mostTo (stockM S) (aO O) i j = mo at *
      generalize askI O (k : Int) = a at *
      generalize sumN (stockM S) (k + 1) - sumN (stockM S) (i + 1) = r at *
      have k1 : (k : Int) < (S.length : Int) := by omega
      have k2 : (0 : Int) ≤ (k : Int) := by omega
      have k3 : IntKind.i64.wrap ((k : Int) + 1) = (k : Int) + 1 := by rw [IntKind.wrap_i64]; omega
      have k4 : IntKind.i64.wrap (a - r) = a - r := by rw [IntKind.wrap_i64]; omega
      have Hk := Lib.hid (show i + j = k ∧ k + q = S.length ∧ k < S.length from ⟨hk, hjq, hlt⟩)
      have hmx := max_if mo (a - r)
      rw [← hst] at hmx
      obtain ⟨mx, hmx2⟩ : ∃ mx, Gr9.mostTo (stockM S) (aO O) i (j + 1) = mx := ⟨_, rfl⟩
      rw [hmx2] at hmx hst
      have Hmx := Lib.hid hmx2
      clear hst hb1 hb2 hb3 hb4 hr hk hjq hlt hmx2
      go_wp2_with fail
      refine dag 13 (by kernel_rfl) (by kernel_rfl) (.is ?_ :: .is ?_ :: .is ?_ :: .is ?_ :: .is ?_ :: .is ?_ :: .is ?_ :: .is ?_ :: .is ?_ :: .is ?_ :: .is ?_ :: .is ?_ :: .is ?_ :: []) rfl ?st1 ?ob1
      case st1 => simp [Spec.ok]
      case ob1 =>
        intro env V hG
        obtain ⟨hc, hf⟩ := bcell hG
        have HW1 := Lib.hid (HW.out.later hG)
        iterate 3 (refine obls_is ?_ ?_; unfold doesAt; go_simp; (try go_bits); (first | (refine ⟨brefl _, ?_⟩; rfl) | rfl); intro K hK; go_simp; refine hK _ ?_; clear hK K)
        refine obls_is ?_ ?_
        · unfold doesAt
          go_simp
          refine (Hask1.out _ HW1.out.gw.sh).mono ?_
          rintro e w1 ⟨rfl, hb1⟩
          (refine ⟨?_, hb1⟩; rfl)
        intro K hK
        go_simp
        refine hK _ ?_
        clear hK K
        iterate 5 (refine obls_is ?_ ?_; unfold doesAt; go_simp; (try go_bits); (first | (refine ⟨brefl _, ?_⟩; rfl) | rfl); intro K hK; go_simp; refine hK _ ?_; clear hK K)
        refine obls_is ?_ ?_
        · unfold doesAt
          go_simp
          refine (Hsum1.out _ HW1.out.gw.sh).mono ?_
          rintro e w1 ⟨rfl, hb1⟩
          (refine ⟨?_, hb1⟩; rfl)
        intro K hK
        go_simp
        refine hK _ ?_
        clear hK K
        repeat (refine obls_is ?_ ?_; unfold doesAt; go_simp; (try go_bits); (first | (refine ⟨brefl _, ?_⟩; rfl) | rfl); intro K hK; go_simp; refine hK _ ?_; clear hK K)
        refine obls_nil (fun _ => ?_)
        clear hc hf hG g0 g1 g2 g3 hmx
        go_wp2
        refine hK2 _ _ (q - 1) (by have := Hk.out; omega) ⟨rfl, j + 1, by have := Hk.out; omega, HW1, ?_⟩
        rw [show i + (j + 1) = k + 1 by have := Hk.out; omega, Hmx.out]
        repeat (first | exact fits_nil | refine fits_none ?_ | refine fits_some ?_)
    · obtain ⟨k, hk⟩ : ∃ k, i + j = k := ⟨_, rfl⟩
      rw [hk]
      have k1 : ¬ (k : Int) < (S.length : Int) := by omega
      have hmo : Gr9.mostTo (stockM S) (aO O) i j = Gr9.mostG (stockM S) (aO O) S.length i := by
        unfold Gr9.mostG
        rw [show S.length - i = j by have := Him.out; omega]
      have hb1 := mostTo_bound (g := i) HM.out h8 HO.out j
      rw [hmo] at hb1 ⊢
      generalize Gr9.mostG (stockM S) (aO O) S.length i = mo at *
      have hbb := Hbb.out
      have i4 : IntKind.i64.wrap (mo - bf) = mo - bf := by rw [IntKind.wrap_i64]; omega
      have hsp : spV S.length O (stockM S) i = mo - bf := Hsp.out
      rw [← hsp] at i4
      have HT2 := Lib.hid hsp
      obtain ⟨x, hx⟩ : ∃ x, mo - bf = x := ⟨_, rfl⟩
      rw [hsp, hx] at i4
      have HX := Lib.hid (show spV S.length O (stockM S) i = x by rw [hsp, hx])
      have i5 : IntKind.i64.wrap (mo - bf) = x := by rw [hx]; exact i4
      obtain ⟨i0, hi0, hz0, hz1, hz2⟩ := info_parts info_long
      have HRa := Lib.hid (HW.out.later (balloc (brefl W) (.cells #[.int .i64 x] 2)))
      have hxl := Hxl.out
      have hi5 : xs.length ≤ 5 := by have := Him.out; omega
      have hsz := HW.out.gw.b0.lt
      clear hsp hx hk hlt hjq hK2 hmo hb1 hbb HW HT2 hxl
      go_wp2_with (at_builtin; refine wpList_append_own _ rfl _ _ 22 rfl (w.heap.size + 1) 2 i0 (.int .i64 0) 1 8 und_longs hi0 hz0 hz1 hz2 rfl (by decide) v xs.length _ rfl HRa.out.own ⟨W.heap.size, 0, none⟩ 1 1 [.int .i64 x] rfl rfl (one_new _ _ _) (by simp [Value.oneCell']) (by simp only [maxLen]; omega) (by omega) (by simp; omega) ?_; intro v' W3 hown' hgr _; have HR4 := Lib.hid (HRa.out.app Hs.out hgr hown'); clear hown' hgr)
      have hwd : Below W3.heap.size W3 W3 := brefl _
      clear hwd
      refine hK _ _ (m - 1) (by have := Him.out; omega) ⟨rfl, i + 1, v', by have := Him.out; omega, by rw [HT.out, HX.out]; exact HR4, ?_⟩
      rw [Hpr.out]
      repeat (first | exact fits_nil | refine fits_none ?_ | refine fits_some ?_)
  · obtain rfl : i = S.length := by omega
    have i1 : ¬ (S.length : Int) < (S.length : Int) := by omega
    have hl : ((List.range S.length).map (spV S.length O (stockM S))).length = S.length := by simp
    obtain ⟨A, c, rfl, hsl⟩ := own_slI HW.out.own rfl
    rw [hl] at hsl ⊢
    have Hsl := Lib.hid hsl
    generalize Gr9.pre (spV S.length O (stockM S)) S.length = bf at *
    clear hsl hK him hlt hl
    go_wp2
    go_ret
    exact ⟨A, c, rfl, HW.out.gw.bel, Hsl.out⟩
/-- A shop that the document's formulas hold for: it need not be valid. -/
theorem spL_bound {n : Nat} {P : List Int} {O : List Od} {M : Nat → Int} {b : Int} (h : ShOk n P O M b) : ∀ x ∈ spL n O M, 0 ≤ x ∧ x ≤ 1000 := fun x hx => by
  unfold spL at hx
  simp only [List.mem_map, List.mem_range] at hx
  obtain ⟨g, hg, rfl⟩ := hx
  have := spV_bound h hg
  omega
theorem spL_at {n : Nat} {O : List Od} {M : Nat → Int} {g : Nat} (hg : g < n) : stockM (spL n O M) g = spV n O M g := by
  refine stockM_at ?_
  unfold spL
  rw [List.getElem?_map, List.getElem?_range hg]
  rfl
theorem costX_sp {n : Nat} {P : List Int} {O : List Od} {M : Nat → Int} : costX P (spL n O M) = leV n P O M := by
  have h1 : (spL n O M).length = n := by simp [spL]
  unfold costX
  rw [h1]
  exact costL_leV fun g hg => spL_at hg
section
variable (SA : Option Addr) (sn sc : Nat) (PA : Option Addr) (pn pc : Nat) (OA : Option Addr) (on oc : Nat) (S P : List Int) (O : List Od) (w : World) (hs : ShopIn w w.heap.size SA sn sc PA pn pc OA on oc S P O)
include hs
set_option maxRecDepth 100000 in
set_option maxHeartbeats 2000000 in
theorem refLeastOf_any {b : Int} (hk : ShOk S.length P O (stockM S) b) (hb : b ≤ 150) : Calls Try.prog 71 #[.agg #[.slice SA sn sc, .slice PA pn pc, .slice OA on oc]] w fun e w' => e = .returned (.int .i64 (leV S.length P O (stockM S))) ∧ Below w.heap.size w w' := by
  obtain rfl := hs.stk.len
  obtain rfl := hs.prc.len
  obtain rfl := hs.ord.len
  have HG0 := Lib.hid (GW.start hs)
  obtain ⟨g0, g1, g2, g3⟩ := HG0.out.cells
  have Hl := Lib.hid hk.len
  have h8 := hk.oin.1
  have hS : ∀ x ∈ S, 0 ≤ x ∧ x ≤ 150 := fun x hx => by
    obtain ⟨j, hj⟩ := List.getElem?_of_mem hx
    have := hk.stk j
    rw [stockM_at hj] at this
    omega
  have Hsp := Lib.hid (fun W (h : ShopIn W W.heap.size SA S.length sc PA P.length pc OA O.length oc S P O) => refSpentOf_any SA S.length sc PA P.length pc OA O.length oc S P O W h hk.n1 hk.n5 h8 (fun o ho => (hk.oin.2 o ho).2) hS)
  have Hco := Lib.hid (fun A c W (h : ShopIn W W.heap.size SA S.length sc PA P.length pc OA O.length oc S P O) (hx : Sl 1 encI W W.heap.size A S.length c (spL S.length O (stockM S))) => refCost_any SA S.length sc PA P.length pc OA O.length oc S P O W h A S.length c _ hx (by have := Hl.out; omega) (by have := hk.n5; have := Hl.out; omega) hk.prc (spL_bound hk))
  rw [costX_sp] at Hco
  generalize leV S.length P O (stockM S) = v at *
  clear hs hk hS
  go_enter Try.func71, Try.ntmps71
  go_wp2_with fail
  refine dag 5 (by kernel_rfl) (by kernel_rfl) (.is ?_ :: .is ?_ :: .like (IsInts S.length (spL S.length O (stockM S))) :: .is ?_ :: .is ?_ :: []) rfl ?st1 ?ob1
  case st1 => repeat (first | exact stab_nil | refine stab_is ?_ | refine stab_like IsInts.stab ?_)
  case ob1 =>
    intro env V hG
    obtain ⟨hc, hf⟩ := bcell hG
    have HG1 := Lib.hid (HG0.out.later hG)
    iterate 2 (refine obls_is ?_ ?_; unfold doesAt; go_simp; (try go_bits); (first | (refine ⟨brefl _, ?_⟩; rfl) | rfl); intro K hK; go_simp; refine hK _ ?_; clear hK K)
    refine obls_like (fun _ => ?_) ?_
    · unfold doesAt
      go_simp
      refine (Hsp.out _ HG1.out.sh).mono ?_
      rintro e w3 ⟨A, c, rfl, hb3, hsl⟩
      exact ⟨_, rfl, hb3, A, c, rfl, hsl⟩
    intro K hK
    go_simp
    refine hK _ ?_
    clear hK K
    refine obls_isL (fun hl => ?_) ?_
    · obtain ⟨A, c, hE, hsl⟩ : IsInts S.length (spL S.length O (stockM S)) (env 2) V := hl ⟨2, .data⟩ (by simp) rfl
      have Hsl := Lib.hid hsl
      clear hsl
      unfold doesAt
      go_simp
      refine (Hco.out A c _ HG1.out.sh Hsl.out).mono ?_
      rintro e w3 ⟨rfl, hb3⟩
      refine ⟨?_, hb3⟩
      rfl
    intro K hK
    go_simp
    refine hK _ ?_
    clear hK K
    repeat (refine obls_is ?_ ?_; unfold doesAt; go_simp; (try go_bits); (first | (refine ⟨brefl _, ?_⟩; rfl) | rfl); intro K hK; go_simp; refine hK _ ?_; clear hK K)
    refine obls_nil (fun _ => ?_)
    clear hc hf hG g0 g1 g2 g3
    go_wp2
    go_ret
    exact ⟨rfl, HG1.out.bel⟩
set_option maxHeartbeats 2000000 in
theorem refFilled_any : Calls Try.prog 68 #[.agg #[.slice SA sn sc, .slice PA pn pc, .slice OA on oc]] w fun e w' => e = .returned (.int .i64 (filE S P O)) ∧ Below w.heap.size w w' := by
  obtain rfl := hs.stk.len
  obtain rfl := hs.prc.len
  obtain rfl := hs.ord.len
  have HG0 := Lib.hid (GW.start hs)
  obtain ⟨g0, g1, g2, g3⟩ := HG0.out.cells
  have Ho := Lib.hid (fun W (h : ShopIn W W.heap.size SA S.length sc PA P.length pc OA O.length oc S P O) => refShop_any SA S.length sc PA P.length pc OA O.length oc S P O W h)
  by_cases he : shopE S P O = 0
  case neg =>
    rw [filE_shop he]
    obtain ⟨q, hq⟩ : ∃ q, shopE S P O = q := ⟨_, rfl⟩
    rw [hq] at Ho he ⊢
    have d1 : (q != 0) = true := by simpa using he
    clear hs hq he
    go_enter Try.func68, Try.ntmps68
    go_wp2_with fail
    refine (Ho.out _ HG0.out.sh).mono ?_
    rintro e w1 ⟨rfl, hb⟩
    have HG1 := Lib.hid (HG0.out.later hb)
    clear hb HG0 g0 g1 g2 g3
    obtain ⟨g0, g1, g2, g3⟩ := HG1.out.cells
    go_wp2_with fail
    refine (Ho.out _ HG1.out.sh).mono ?_
    rintro e w2 ⟨rfl, hb⟩
    have HG2 := Lib.hid (HG1.out.later hb)
    clear hb HG1 g0 g1 g2 g3
    obtain ⟨g0, g1, g2, g3⟩ := HG2.out.cells
    go_wp2
    go_ret
    exact ⟨rfl, HG2.out.bel⟩
  have Hc := Lib.hid (fun W (h : ShopIn W W.heap.size SA S.length sc PA P.length pc OA O.length oc S P O) => refCan_any SA S.length sc PA P.length pc OA O.length oc S P O W h he)
  rw [he] at Ho
  cases hc : canB S.length O (stockM S) with
  | false =>
    rw [filE_no he hc]
    rw [hc] at Hc
    clear hs he hc
    go_enter Try.func68, Try.ntmps68
    go_wp2_with fail
    refine (Ho.out _ HG0.out.sh).mono ?_
    rintro e w3 ⟨rfl, hb⟩
    have HG1 := Lib.hid (HG0.out.later hb)
    clear hb HG0 g0 g1 g2 g3
    obtain ⟨g0, g1, g2, g3⟩ := HG1.out.cells
    go_wp2_with fail
    refine (Hc.out _ HG1.out.sh).mono ?_
    rintro e w4 ⟨rfl, hb⟩
    have HG2 := Lib.hid (HG1.out.later hb)
    clear hb HG1 g0 g1 g2 g3
    obtain ⟨g0, g1, g2, g3⟩ := HG2.out.cells
    go_wp2
    go_ret
    exact ⟨rfl, HG2.out.bel⟩
  | true =>
    rw [filE_ok he hc]
    rw [hc] at Hc
    clear hs he hc
    go_enter Try.func68, Try.ntmps68
    go_wp2_with fail
    refine (Ho.out _ HG0.out.sh).mono ?_
    rintro e w5 ⟨rfl, hb⟩
    have HG1 := Lib.hid (HG0.out.later hb)
    clear hb HG0 g0 g1 g2 g3
    obtain ⟨g0, g1, g2, g3⟩ := HG1.out.cells
    go_wp2_with fail
    refine (Hc.out _ HG1.out.sh).mono ?_
    rintro e w6 ⟨rfl, hb⟩
    have HG2 := Lib.hid (HG1.out.later hb)
    clear hb HG1 g0 g1 g2 g3
    obtain ⟨g0, g1, g2, g3⟩ := HG2.out.cells
    go_wp2
    go_ret
    exact ⟨rfl, HG2.out.bel⟩
set_option maxHeartbeats 2000000 in
theorem refSpent_bad (hne : filE S P O ≠ 0) : Calls Try.prog 28 #[.agg #[.slice SA sn sc, .slice PA pn pc, .slice OA on oc]] w fun e w' => e = .returned (.tuple #[.slice none 0 0, .int .i64 (filE S P O)]) ∧ Below w.heap.size w w' := by
  obtain rfl := hs.stk.len
  obtain rfl := hs.prc.len
  obtain rfl := hs.ord.len
  have HG0 := Lib.hid (GW.start hs)
  obtain ⟨g0, g1, g2, g3⟩ := HG0.out.cells
  have Ho := Lib.hid (fun W (h : ShopIn W W.heap.size SA S.length sc PA P.length pc OA O.length oc S P O) => refFilled_any SA S.length sc PA P.length pc OA O.length oc S P O W h)
  obtain ⟨q, hq⟩ : ∃ q, filE S P O = q := ⟨_, rfl⟩
  rw [hq] at Ho hne ⊢
  have d1 : (q != 0) = true := by simpa using hne
  clear hs hq hne
  go_enter Try.func28, Try.ntmps28
  go_wp2_with fail
  refine (Ho.out _ HG0.out.sh).mono ?_
  rintro e w7 ⟨rfl, hb⟩
  have HG1 := Lib.hid (HG0.out.later hb)
  clear hb HG0 g0 g1 g2 g3
  obtain ⟨g0, g1, g2, g3⟩ := HG1.out.cells
  go_wp2_with fail
  refine (Ho.out _ HG1.out.sh).mono ?_
  rintro e w8 ⟨rfl, hb⟩
  have HG2 := Lib.hid (HG1.out.later hb)
  clear hb HG1 g0 g1 g2 g3
  obtain ⟨g0, g1, g2, g3⟩ := HG2.out.cells
  go_wp2
  go_ret2
  exact ⟨rfl, HG2.out.bel⟩
set_option maxHeartbeats 2000000 in
theorem refSpent_ok (hf : filE S P O = 0) : Calls Try.prog 28 #[.agg #[.slice SA sn sc, .slice PA pn pc, .slice OA on oc]] w fun e w' => ∃ A c, e = .returned (.tuple #[.slice A S.length c, .int .i64 0]) ∧ Below w.heap.size w w' ∧ Sl 1 encI w' w'.heap.size A S.length c (spL S.length O (stockM S)) := by
  obtain rfl := hs.stk.len
  obtain rfl := hs.prc.len
  obtain rfl := hs.ord.len
  have HG0 := Lib.hid (GW.start hs)
  obtain ⟨g0, g1, g2, g3⟩ := HG0.out.cells
  have Ho := Lib.hid (fun W (h : ShopIn W W.heap.size SA S.length sc PA P.length pc OA O.length oc S P O) => refFilled_any SA S.length sc PA P.length pc OA O.length oc S P O W h)
  rw [hf] at Ho
  have hF := fine_of (filE_zero hf).1
  have Hsp := Lib.hid (fun W (h : ShopIn W W.heap.size SA S.length sc PA P.length pc OA O.length oc S P O) => refSpentOf_any SA S.length sc PA P.length pc OA O.length oc S P O W h hF.n1 hF.n5 hF.o8 (fun o ho => (hF.ord o ho).2) (fun x hx => by have := hF.stk x hx; omega))
  clear hs hf hF
  go_enter Try.func28, Try.ntmps28
  go_wp2_with fail
  refine (Ho.out _ HG0.out.sh).mono ?_
  rintro e w9 ⟨rfl, hb⟩
  have HG1 := Lib.hid (HG0.out.later hb)
  clear hb HG0 g0 g1 g2 g3
  obtain ⟨g0, g1, g2, g3⟩ := HG1.out.cells
  go_wp2_with fail
  refine (Hsp.out _ HG1.out.sh).mono ?_
  rintro e w10 ⟨A, c, rfl, hb, hsl⟩
  have HG2 := Lib.hid (HG1.out.later hb)
  clear hb HG1 g0 g1 g2 g3
  obtain ⟨g0, g1, g2, g3⟩ := HG2.out.cells
  have Hsl := Lib.hid hsl
  clear hsl
  go_wp2
  go_ret2
  exact ⟨A, c, rfl, HG2.out.bel, Hsl.out⟩
set_option maxHeartbeats 2000000 in
theorem refLeast_bad (hne : filE S P O ≠ 0) : Calls Try.prog 30 #[.agg #[.slice SA sn sc, .slice PA pn pc, .slice OA on oc]] w fun e w' => e = .returned (.tuple #[.int .i64 0, .int .i64 (filE S P O)]) ∧ Below w.heap.size w w' := by
  obtain rfl := hs.stk.len
  obtain rfl := hs.prc.len
  obtain rfl := hs.ord.len
  have HG0 := Lib.hid (GW.start hs)
  obtain ⟨g0, g1, g2, g3⟩ := HG0.out.cells
  have Ho := Lib.hid (fun W (h : ShopIn W W.heap.size SA S.length sc PA P.length pc OA O.length oc S P O) => refFilled_any SA S.length sc PA P.length pc OA O.length oc S P O W h)
  obtain ⟨q, hq⟩ : ∃ q, filE S P O = q := ⟨_, rfl⟩
  rw [hq] at Ho hne ⊢
  have d1 : (q != 0) = true := by simpa using hne
  clear hs hq hne
  go_enter Try.func30, Try.ntmps30
  go_wp2_with fail
  refine (Ho.out _ HG0.out.sh).mono ?_
  rintro e w11 ⟨rfl, hb⟩
  have HG1 := Lib.hid (HG0.out.later hb)
  clear hb HG0 g0 g1 g2 g3
  obtain ⟨g0, g1, g2, g3⟩ := HG1.out.cells
  go_wp2_with fail
  refine (Ho.out _ HG1.out.sh).mono ?_
  rintro e w12 ⟨rfl, hb⟩
  have HG2 := Lib.hid (HG1.out.later hb)
  clear hb HG1 g0 g1 g2 g3
  obtain ⟨g0, g1, g2, g3⟩ := HG2.out.cells
  go_wp2
  go_ret2
  exact ⟨rfl, HG2.out.bel⟩
set_option maxHeartbeats 2000000 in
theorem refLeast_ok (hf : filE S P O = 0) : Calls Try.prog 30 #[.agg #[.slice SA sn sc, .slice PA pn pc, .slice OA on oc]] w fun e w' => e = .returned (.tuple #[.int .i64 (leV S.length P O (stockM S)), .int .i64 0]) ∧ Below w.heap.size w w' := by
  obtain rfl := hs.stk.len
  obtain rfl := hs.prc.len
  obtain rfl := hs.ord.len
  have HG0 := Lib.hid (GW.start hs)
  obtain ⟨g0, g1, g2, g3⟩ := HG0.out.cells
  have Ho := Lib.hid (fun W (h : ShopIn W W.heap.size SA S.length sc PA P.length pc OA O.length oc S P O) => refFilled_any SA S.length sc PA P.length pc OA O.length oc S P O W h)
  rw [hf] at Ho
  have hF := fine_of (filE_zero hf).1
  have Hl := Lib.hid (fun W (h : ShopIn W W.heap.size SA S.length sc PA P.length pc OA O.length oc S P O) => refLeastOf_any SA S.length sc PA P.length pc OA O.length oc S P O W h hF.ok (by omega))
  generalize leV S.length P O (stockM S) = v at *
  clear hs hf hF
  go_enter Try.func30, Try.ntmps30
  go_wp2_with fail
  refine (Ho.out _ HG0.out.sh).mono ?_
  rintro e w13 ⟨rfl, hb⟩
  have HG1 := Lib.hid (HG0.out.later hb)
  clear hb HG0 g0 g1 g2 g3
  obtain ⟨g0, g1, g2, g3⟩ := HG1.out.cells
  go_wp2_with fail
  refine (Hl.out _ HG1.out.sh).mono ?_
  rintro e w14 ⟨rfl, hb⟩
  have HG2 := Lib.hid (HG1.out.later hb)
  clear hb HG1 g0 g1 g2 g3
  obtain ⟨g0, g1, g2, g3⟩ := HG2.out.cells
  go_wp2
  go_ret2
  exact ⟨rfl, HG2.out.bel⟩
end
end Go.Proofs.Ytmfiggbobaihcaa
