/- grade.Worth, Proof, Span. -/
import Derived.Test.YtmfiggbobaihcaaGApiB
namespace Go.Proofs.Ytmfiggbobaihcaa
open Go.RowKit Go.Shelf

/-- What Worth returns. -/
def worthR (S P : List Int) (O : List Od) (g : Int) : Int × Int := if shopE S P O ≠ 0 then (0, shopE S P O) else if inR 0 ((S.length : Int) - 1) g then (if filE S P O ≠ 0 then (0, filE S P O) else (woV S.length P O (stockM S) g.toNat, 0)) else (0, 2)
/-- The worths of all grades. -/
def woL (n : Nat) (P : List Int) (O : List Od) (M : Nat → Int) : List Int := (List.range n).map (woV n P O M)
section
variable (SA : Option Addr) (sn sc : Nat) (PA : Option Addr) (pn pc : Nat) (OA : Option Addr) (on oc : Nat) (S P : List Int) (O : List Od) (w : World) (hs : ShopIn w w.heap.size SA sn sc PA pn pc OA on oc S P O)
include hs
set_option maxHeartbeats 4000000 in
theorem worthA_any (g : Int) : Calls Try.prog 35 #[.agg #[.slice SA sn sc, .slice PA pn pc, .slice OA on oc], .int .i64 g] w fun e w' => e = .returned (.tuple #[.int .i64 (worthR S P O g).1, .int .i64 (worthR S P O g).2]) ∧ Below w.heap.size w w' := by
  obtain rfl := hs.stk.len
  obtain rfl := hs.prc.len
  obtain rfl := hs.ord.len
  have HG0 := Lib.hid (GW.start hs)
  obtain ⟨g0, g1, g2, g3⟩ := HG0.out.cells
  unfold worthR
  have Hcs := Lib.hid (fun W (h : ShopIn W W.heap.size SA S.length sc PA P.length pc OA O.length oc S P O) => checkShop_any SA S.length sc PA P.length pc OA O.length oc S P O W h)
  by_cases he : shopE S P O = 0
  · rw [if_neg (fun h => h he)]
    have hF := fine_of he
    have n5 := hF.n5
    have hw : IntKind.i64.wrap ((S.length : Int) - 1) = (S.length : Int) - 1 := by rw [IntKind.wrap_i64]; omega
    obtain ⟨q, hq⟩ : ∃ q, inR 0 ((S.length : Int) - 1) g = q := ⟨_, rfl⟩
    rw [hq]
    have Hq := Lib.hid hq
    rw [he] at Hcs
    clear hs he hq
    cases q with
    | false =>
      clear hF
      go_enter Try.func35, Try.ntmps35
      go_wp2_with fail
      refine (Hcs.out _ HG0.out.sh).mono ?_
      rintro e w1 ⟨rfl, hb⟩
      have HG1 := Lib.hid (HG0.out.later hb)
      clear hb HG0 g0 g1 g2 g3
      obtain ⟨g0, g1, g2, g3⟩ := HG1.out.cells
      go_wp2_with fail
      have HG2 := Lib.hid (HG1.out.later (balloc (brefl w1) (.cells #[.int .i64 g] 2)))
      clear HG1 g0 g1 g2 g3
      obtain ⟨g0, g1, g2, g3⟩ := HG2.out.cells
      go_wp2_with fail
      refine (within_one 0 ((S.length : Int) - 1) g w1.heap.size _ (by simp) (by go_simp)).mono ?_
      rintro e w2 ⟨rfl, hb⟩
      have HG3 := Lib.hid (HG2.out.later hb)
      clear hb HG2 g0 g1 g2 g3
      obtain ⟨g0, g1, g2, g3⟩ := HG3.out.cells
      rw [Hq.out]
      go_wp2
      go_ret2
      exact ⟨rfl, HG3.out.bel⟩
    | true =>
      rw [if_pos rfl]
      obtain ⟨k, rfl⟩ : ∃ k : Nat, g = (k : Int) := ⟨g.toNat, by have := (inR_iff _ _ _).1 Hq.out; omega⟩
      have hkn : k < S.length := by have := (inR_iff _ _ _).1 Hq.out; omega
      by_cases hf : filE S P O = 0
      · rw [if_neg (fun h => h hf)]
        have Ho := Lib.hid (fun W (h : ShopIn W W.heap.size SA S.length sc PA P.length pc OA O.length oc S P O) => filled_ok SA S.length sc PA P.length pc OA O.length oc S P O W h hf)
        have Hwo := Lib.hid (fun T W (h : StIn W T SA S.length sc PA P.length pc OA O.length oc S P O (stockM S)) => worth_any T k SA S.length sc PA P.length pc OA O.length oc S P O (stockM S) W h (hF.ok.more (by omega)) (filE_zero hf).2 hkn)
        rw [show ((k : Int)).toNat = k by omega]
        generalize woV S.length P O (stockM S) k = v at *
        clear hF hf hkn
        go_enter Try.func35, Try.ntmps35
        go_wp2_with fail
        refine (Hcs.out _ HG0.out.sh).mono ?_
        rintro e w3 ⟨rfl, hb⟩
        have HG1 := Lib.hid (HG0.out.later hb)
        clear hb HG0 g0 g1 g2 g3
        obtain ⟨g0, g1, g2, g3⟩ := HG1.out.cells
        go_wp2_with fail
        have HG2 := Lib.hid (HG1.out.later (balloc (brefl w3) (.cells #[.int .i64 (k : Int)] 2)))
        clear HG1 g0 g1 g2 g3
        obtain ⟨g0, g1, g2, g3⟩ := HG2.out.cells
        go_wp2_with fail
        refine (within_one 0 ((S.length : Int) - 1) (k : Int) w3.heap.size _ (by simp) (by go_simp)).mono ?_
        rintro e w4 ⟨rfl, hb⟩
        have HG3 := Lib.hid (HG2.out.later hb)
        clear hb HG2 g0 g1 g2 g3
        obtain ⟨g0, g1, g2, g3⟩ := HG3.out.cells
        rw [Hq.out]
        go_wp2_with fail
        refine (Ho.out _ HG3.out.sh).mono ?_
        rintro e w5 ⟨T, rfl, hb, hst⟩
        have HG4 := Lib.hid (HG3.out.later hb)
        clear hb HG3 g0 g1 g2 g3
        obtain ⟨g0, g1, g2, g3⟩ := HG4.out.cells
        have HO4 := Lib.hid hst
        clear hst
        obtain ⟨o0, o1, o2, o3⟩ := HO4.out.cells
        go_wp2_with fail
        refine (Hwo.out T _ HO4.out).mono ?_
        rintro e w6 ⟨rfl, hb⟩
        have HG5 := Lib.hid (HG4.out.later hb)
        have HO5 := Lib.hid (HO4.out.later hb)
        clear hb HG4 HO4 g0 g1 g2 g3 o0 o1 o2 o3
        obtain ⟨g0, g1, g2, g3⟩ := HG5.out.cells
        obtain ⟨o0, o1, o2, o3⟩ := HO5.out.cells
        go_wp2
        go_ret2
        exact ⟨rfl, HG5.out.bel⟩
      · rw [if_pos hf]
        have hne := hf
        have Ho := Lib.hid (fun W (h : ShopIn W W.heap.size SA S.length sc PA P.length pc OA O.length oc S P O) => filled_bad SA S.length sc PA P.length pc OA O.length oc S P O W h hne)
        obtain ⟨q, hq⟩ : ∃ q, filE S P O = q := ⟨_, rfl⟩
        rw [hq] at Ho hne ⊢
        have d1 : (q != 0) = true := by simpa using hne
        clear hF hf hkn hq hne
        go_enter Try.func35, Try.ntmps35
        go_wp2_with fail
        refine (Hcs.out _ HG0.out.sh).mono ?_
        rintro e w7 ⟨rfl, hb⟩
        have HG1 := Lib.hid (HG0.out.later hb)
        clear hb HG0 g0 g1 g2 g3
        obtain ⟨g0, g1, g2, g3⟩ := HG1.out.cells
        go_wp2_with fail
        have HG2 := Lib.hid (HG1.out.later (balloc (brefl w7) (.cells #[.int .i64 (k : Int)] 2)))
        clear HG1 g0 g1 g2 g3
        obtain ⟨g0, g1, g2, g3⟩ := HG2.out.cells
        go_wp2_with fail
        refine (within_one 0 ((S.length : Int) - 1) (k : Int) w7.heap.size _ (by simp) (by go_simp)).mono ?_
        rintro e w8 ⟨rfl, hb⟩
        have HG3 := Lib.hid (HG2.out.later hb)
        clear hb HG2 g0 g1 g2 g3
        obtain ⟨g0, g1, g2, g3⟩ := HG3.out.cells
        rw [Hq.out]
        go_wp2_with fail
        refine (Ho.out _ HG3.out.sh).mono ?_
        rintro e w9 ⟨rfl, hb⟩
        have HG4 := Lib.hid (HG3.out.later hb)
        clear hb HG3 g0 g1 g2 g3
        obtain ⟨g0, g1, g2, g3⟩ := HG4.out.cells
        go_wp2
        go_ret2
        exact ⟨rfl, HG4.out.bel⟩
  · rw [if_pos he]
    have Ho := Hcs
    clear Hcs
    obtain ⟨q, hq⟩ : ∃ q, shopE S P O = q := ⟨_, rfl⟩
    rw [hq] at Ho he ⊢
    have d1 : (q != 0) = true := by simpa using he
    clear hs hq he
    go_enter Try.func35, Try.ntmps35
    go_wp2_with fail
    refine (Ho.out _ HG0.out.sh).mono ?_
    rintro e w10 ⟨rfl, hb⟩
    have HG1 := Lib.hid (HG0.out.later hb)
    clear hb HG0 g0 g1 g2 g3
    obtain ⟨g0, g1, g2, g3⟩ := HG1.out.cells
    go_wp2
    go_ret2
    exact ⟨rfl, HG1.out.bel⟩
set_option maxHeartbeats 2000000 in
theorem proofA_bad (hne : filE S P O ≠ 0) : Calls Try.prog 37 #[.agg #[.slice SA sn sc, .slice PA pn pc, .slice OA on oc]] w fun e w' => e = .returned (.tuple #[.slice none 0 0, .int .i64 (filE S P O)]) ∧ Below w.heap.size w w' := by
  obtain rfl := hs.stk.len
  obtain rfl := hs.prc.len
  obtain rfl := hs.ord.len
  have HG0 := Lib.hid (GW.start hs)
  obtain ⟨g0, g1, g2, g3⟩ := HG0.out.cells
  have Ho := Lib.hid (fun W (h : ShopIn W W.heap.size SA S.length sc PA P.length pc OA O.length oc S P O) => filled_bad SA S.length sc PA P.length pc OA O.length oc S P O W h hne)
  obtain ⟨q, hq⟩ : ∃ q, filE S P O = q := ⟨_, rfl⟩
  rw [hq] at Ho hne ⊢
  have d1 : (q != 0) = true := by simpa using hne
  clear hs hq hne
  go_enter Try.func37, Try.ntmps37
  go_wp2_with fail
  refine (Ho.out _ HG0.out.sh).mono ?_
  rintro e w11 ⟨rfl, hb⟩
  have HG1 := Lib.hid (HG0.out.later hb)
  clear hb HG0 g0 g1 g2 g3
  obtain ⟨g0, g1, g2, g3⟩ := HG1.out.cells
  go_wp2
  go_ret2
  exact ⟨rfl, HG1.out.bel⟩
end
/-- While numbers are gathered: a row of the call's own, from block B on. -/
structure RwW (W : World) (B : Nat) (v : Value) (xs : List Int) : Prop where
  own : W.ownsRow B 2 1 v xs.length (xs.map (Value.int .i64))
theorem RwW.later {W W' : World} {B : Nat} {v : Value} {xs : List Int} (h : RwW W B v xs) (hb : Below W.heap.size W W') : RwW W' B v xs := ⟨own_later h.own hb⟩
theorem RwW.app {W : World} {B : Nat} {v : Value} {xs : List Int} {x : Int} (h : W.ownsRow B 2 1 v (xs.length + 1) (xs.map (Value.int .i64) ++ [.int .i64 x])) : RwW W B v (xs ++ [x]) := ⟨by simpa using h⟩
/-- An append to the row: what stands stands. -/
theorem below_own {w W W' : World} {B : Nat} {e : TypeId} {size n : Nat} {v : Value} {ys : List Value} (hb : Below w.heap.size w W) (h : W.ownsRow B e size v n ys) (hB : w.heap.size ≤ B) (hg : W.grownBy W' v.ownBlock) : Below w.heap.size w W' :=
  hb.trans ⟨hg.os, hg.tape, hg.output, hg.size, fun k hk => hg.block k (by have := hb.size; omega) (fun e => by have := own_base h k e.symm; omega)⟩
theorem GW.row {w W W' : World} {SA : Option Addr} {sn sc : Nat} {PA : Option Addr} {pn pc : Nat} {OA : Option Addr} {on oc : Nat} {S P : List Int} {O : List Od} (hs : ShopIn w w.heap.size SA sn sc PA pn pc OA on oc S P O) (h : GW w W w.heap.size SA sn sc PA pn pc OA on oc S P O) (hb : Below w.heap.size w W') {row : Option Nat} (hg : W.grownBy W' row) (hr : row ≠ some w.heap.size) : GW w W' w.heap.size SA sn sc PA pn pc OA on oc S P O := ⟨hb, h.b0.grown hg hr, hs.later hb⟩
set_option maxRecDepth 100000 in
set_option maxHeartbeats 4000000 in
theorem proofA_ok (SA : Option Addr) (sn sc : Nat) (PA : Option Addr) (pn pc : Nat) (OA : Option Addr) (on oc : Nat) (S P : List Int) (O : List Od) (w : World) (hs : ShopIn w w.heap.size SA sn sc PA pn pc OA on oc S P O) (hf : filE S P O = 0) : Calls Try.prog 37 #[.agg #[.slice SA sn sc, .slice PA pn pc, .slice OA on oc]] w fun e w' => ∃ A c, e = .returned (.tuple #[.slice A S.length c, .int .i64 0]) ∧ Below w.heap.size w w' ∧ Sl 1 encI w' w'.heap.size A S.length c (woL S.length P O (stockM S)) := by
  have Hs := Lib.hid hs
  obtain rfl := hs.stk.len
  obtain rfl := hs.prc.len
  obtain rfl := hs.ord.len
  have HG0 := Lib.hid (GW.start hs)
  obtain ⟨g0, g1, g2, g3⟩ := HG0.out.cells
  have Ho := Lib.hid (fun W (h : ShopIn W W.heap.size SA S.length sc PA P.length pc OA O.length oc S P O) => filled_ok SA S.length sc PA P.length pc OA O.length oc S P O W h hf)
  have hF := fine_of (filE_zero hf).1
  have Hwo := Lib.hid (fun T W (h : StIn W T SA S.length sc PA P.length pc OA O.length oc S P O (stockM S)) k hk => worth_any T k SA S.length sc PA P.length pc OA O.length oc S P O (stockM S) W h (hF.ok.more (by omega)) (filE_zero hf).2 hk)
  have n5 := hF.n5
  clear hs hf hF
  go_enter Try.func37, Try.ntmps37
  go_wp2_with fail
  refine (Ho.out _ HG0.out.sh).mono ?_
  rintro e w12 ⟨T, rfl, hb, hst⟩
  have HG1 := Lib.hid (HG0.out.later hb)
  clear hb HG0 g0 g1 g2 g3
  obtain ⟨g0, g1, g2, g3⟩ := HG1.out.cells
  have HO1 := Lib.hid hst
  clear hst
  obtain ⟨o0, o1, o2, o3⟩ := HO1.out.cells
  have HW0 := Lib.hid (brefl w12)
  have HRw := Lib.hid (show RwW w12 w12.heap.size (.slice none 0 0) ((List.range 0).map (woV S.length P O (stockM S))) from ⟨World.ownsRow_nil _ _ _ _⟩)
  go_wp2_with fail
  refine loop_n (fun m b W => b.defers = [] ∧ ∃ (i : Nat) (v : Value), i + m = S.length ∧ Hid (Below w12.heap.size w12 W) ∧ Hid (RwW W w12.heap.size v ((List.range i).map (woV S.length P O (stockM S)))) ∧ Fits (none :: some (.pointer (some ⟨w.heap.size, 0, none⟩)) :: none :: none :: none :: none :: some (.func (.func 76) #[.pointer (some ⟨T, 0, none⟩)] #[]) :: some (v) :: none :: none :: none :: none :: none :: none :: none :: none :: none :: none :: none :: none :: none :: some (.int .i64 (S.length : Int)) :: some (.int .i64 (i : Nat)) :: none :: none :: none :: none :: none :: none :: none :: none :: none :: none :: []) b.tmps.toList) S.length ?_ ?_
  · refine ⟨rfl, 0, _, by omega, HW0, HRw, ?_⟩
    repeat (first | exact fits_nil | refine fits_none ?_ | refine fits_some ?_)
  clear HW0 HRw g0 g1 g2 g3 o0 o1 o2 o3
  intro m b W hI K hK
  obtain ⟨hds, i, v, him, HB, HR, hfit⟩ := hI
  obtain ⟨f, hf⟩ := fits_act hfit
  rw [hds] at hf
  subst hf
  clear hfit hds
  simp only [fillP, Nat.reduceAdd]
  by_cases hlt : i < S.length
  · have i1 : (i : Int) < (S.length : Int) := by omega
    have i2 : (0 : Int) ≤ (i : Int) := by omega
    have i3 : IntKind.i64.wrap ((i : Int) + 1) = (i : Int) + 1 := by rw [IntKind.wrap_i64]; omega
    have Him := Lib.hid (show i + m = S.length ∧ i < S.length from ⟨him, hlt⟩)
    have HT := Lib.hid (show (List.range (i + 1)).map (woV S.length P O (stockM S)) = (List.range i).map (woV S.length P O (stockM S)) ++ [woV S.length P O (stockM S) i] by rw [List.range_succ, List.map_append]; rfl)
    have hxl : ((List.range i).map (woV S.length P O (stockM S))).length ≤ 5 := by simp; omega
    generalize hxs : (List.range i).map (woV S.length P O (stockM S)) = xs at *
    clear hxs him
    go_wp2_with fail
    refine (Hwo.out T _ (HO1.out.later HB.out) i hlt).mono ?_
    rintro e w9 ⟨rfl, hb9⟩
    generalize woV S.length P O (stockM S) i = x at *
    obtain ⟨i0, hi0, hz0, hz1, hz2⟩ := info_parts info_long
    have hB2 := Below.later HB.out hb9
    have HB3 := Lib.hid (balloc hB2 (.cells #[.int .i64 x] 2))
    have HRa := Lib.hid ((HR.out.later hb9).later (balloc (brefl w9) (.cells #[.int .i64 x] 2)))
    have hsz := hB2.size
    clear hb9 hB2 HB HR
    go_wp2_with (at_builtin; refine wpList_append_own _ rfl _ _ 22 rfl w12.heap.size 2 i0 (.int .i64 0) 1 8 und_longs hi0 hz0 hz1 hz2 rfl (by decide) v xs.length _ rfl HRa.out.own ⟨w9.heap.size, 0, none⟩ 1 1 [.int .i64 x] rfl rfl (one_new _ _ _) (by simp [Value.oneCell']) (by simp only [maxLen]; omega) (by omega) (by simp; omega) ?_; intro v' W3 hown' hgr _; have HB4 := Lib.hid (below_own HB3.out HRa.out.own (Nat.le_refl _) hgr); have HR4 := Lib.hid (RwW.app hown'); clear hown' hgr)
    refine hK _ _ (m - 1) (by have := Him.out; omega) ⟨rfl, i + 1, v', by have := Him.out; omega, HB4, by rw [HT.out]; exact HR4, ?_⟩
    repeat (first | exact fits_nil | refine fits_none ?_ | refine fits_some ?_)
  · obtain rfl : i = S.length := by omega
    have i1 : ¬ (S.length : Int) < (S.length : Int) := by omega
    obtain ⟨A, c, rfl, hsl⟩ := own_slI HR.out.own rfl
    have Hsl := Lib.hid hsl
    have Hbel := Lib.hid (HG1.out.later HB.out).bel
    have hl : ((List.range S.length).map (woV S.length P O (stockM S))).length = S.length := by simp
    clear hsl hK him hlt HR HB
    go_wp2
    go_ret2
    refine ⟨A, c, rfl, Hbel.out, ?_⟩
    have := Hsl.out
    rw [hl] at this
    exact this
end Go.Proofs.Ytmfiggbobaihcaa
