/- grade.CheckShort, Short, Spent. -/
import Derived.Test.YtmfiggbobaihcaaGApiA
import Derived.Laws.CopyOwn
namespace Go.Proofs.Ytmfiggbobaihcaa
open Go.RowKit Go.Shelf

theorem lit_sl {W : World} {B b : Nat} {t : TypeId} {xs : List Int} {n : Nat} (h : Blk W b t (xs.map (Value.int .i64)).toArray) (hb : b < B) (hn : xs.length = n) (h2 : n ≤ 1000) : Sl 1 encI W B (some ⟨b, 0, none⟩) n n xs :=
  ⟨hn, Nat.le_refl _, by omega, fun _ => ⟨b, 0, rfl, hb, fun i x hx j u hu => by
    have hj : j < 1 := (List.getElem?_eq_some_iff.1 hu).1
    obtain rfl : j = 0 := by omega
    rw [show 0 + i * 1 + 0 = i by omega, h.cell]
    simp only [List.getElem?_toArray, List.getElem?_map, hx, Option.map_some]
    simpa [encI] using hu⟩⟩
section
variable (SA : Option Addr) (sn sc : Nat) (PA : Option Addr) (pn pc : Nat) (OA : Option Addr) (on oc : Nat) (S P : List Int) (O : List Od) (w : World) (hs : ShopIn w w.heap.size SA sn sc PA pn pc OA on oc S P O)
include hs
set_option maxHeartbeats 2000000 in
theorem checkShort_any (g : Int) : Calls Try.prog 21 #[.agg #[.slice SA sn sc, .slice PA pn pc, .slice OA on oc], .int .i64 g] w fun e w' => e = .returned (.tuple #[.int .i64 (chShortR S P O g).1, .int .i64 (chShortR S P O g).2]) ∧ Below w.heap.size w w' := by
  obtain rfl := hs.stk.len
  obtain rfl := hs.prc.len
  obtain rfl := hs.ord.len
  have HG0 := Lib.hid (GW.start hs)
  obtain ⟨g0, g1, g2, g3⟩ := HG0.out.cells
  unfold chShortR
  by_cases he : shopE S P O = 0
  · rw [if_neg (fun h => h he)]
    have hF := fine_of he
    have Hsh := Lib.hid (fun T W (h : StIn W T SA S.length sc PA P.length pc OA O.length oc S P O (stockM S)) (k : Nat) hk => short_any T k SA S.length sc PA P.length pc OA O.length oc S P O (stockM S) W h hk hF.o8 (fun o ho => (hF.ord o ho).2) (fun j _ => by have := hF.ok.stk j; omega))
    have Ho := Lib.hid (fun W (h : ShopIn W W.heap.size SA S.length sc PA P.length pc OA O.length oc S P O) => open_ok SA S.length sc PA P.length pc OA O.length oc S P O W h he)
    have n5 := hF.n5
    have hw : IntKind.i64.wrap ((S.length : Int) - 1) = (S.length : Int) - 1 := by rw [IntKind.wrap_i64]; omega
    obtain ⟨q, hq⟩ : ∃ q, inR 0 ((S.length : Int) - 1) g = q := ⟨_, rfl⟩
    rw [hq]
    have Hq := Lib.hid hq
    clear hs hF he hq
    go_enter Try.func21, Try.ntmps21
    go_wp2_with fail
    refine (Ho.out _ HG0.out.sh).mono ?_
    rintro e w1 ⟨T, rfl, hb, hst, hT⟩
    have HG1 := Lib.hid (HG0.out.later hb)
    clear hb HG0 g0 g1 g2 g3
    obtain ⟨g0, g1, g2, g3⟩ := HG1.out.cells
    have HO1 := Lib.hid hst
    clear hst hT
    obtain ⟨o0, o1, o2, o3⟩ := HO1.out.cells
    go_wp2_with fail
    have HG2 := Lib.hid (HG1.out.later (balloc (brefl w1) (.cells #[.int .i64 g] 2)))
    have HO2 := Lib.hid (HO1.out.later (balloc (brefl w1) (.cells #[.int .i64 g] 2)))
    clear HG1 HO1 g0 g1 g2 g3 o0 o1 o2 o3
    obtain ⟨g0, g1, g2, g3⟩ := HG2.out.cells
    obtain ⟨o0, o1, o2, o3⟩ := HO2.out.cells
    go_wp2_with fail
    refine (within_one 0 ((S.length : Int) - 1) g w1.heap.size _ (by simp) (by go_simp)).mono ?_
    rintro e w2 ⟨rfl, hb⟩
    have HG3 := Lib.hid (HG2.out.later hb)
    have HO3 := Lib.hid (HO2.out.later hb)
    clear hb HG2 HO2 g0 g1 g2 g3 o0 o1 o2 o3
    obtain ⟨g0, g1, g2, g3⟩ := HG3.out.cells
    obtain ⟨o0, o1, o2, o3⟩ := HO3.out.cells
    rw [Hq.out]
    cases q with
    | false =>
      go_wp2
      go_ret2
      exact ⟨rfl, HG3.out.bel⟩
    | true =>
      obtain ⟨k, rfl⟩ : ∃ k : Nat, g = (k : Int) := ⟨g.toNat, by have := (inR_iff _ _ _).1 Hq.out; omega⟩
      have hk5 : k < 5 := by have := (inR_iff _ _ _).1 Hq.out; omega
      have Hk := Lib.hid hk5
      clear hk5
      go_wp2_with fail
      refine (Hsh.out T _ HO3.out k Hk.out).mono ?_
      rintro e w3 ⟨rfl, hb⟩
      have HG4 := Lib.hid (HG3.out.later hb)
      have HO4 := Lib.hid (HO3.out.later hb)
      clear hb HG3 HO3 g0 g1 g2 g3 o0 o1 o2 o3
      obtain ⟨g0, g1, g2, g3⟩ := HG4.out.cells
      obtain ⟨o0, o1, o2, o3⟩ := HO4.out.cells
      go_wp2
      go_ret2
      exact ⟨rfl, HG4.out.bel⟩
  · rw [if_pos he]
    have Ho := Lib.hid (fun W (h : ShopIn W W.heap.size SA S.length sc PA P.length pc OA O.length oc S P O) => open_bad SA S.length sc PA P.length pc OA O.length oc S P O W h he)
    obtain ⟨q, hq⟩ : ∃ q, shopE S P O = q := ⟨_, rfl⟩
    rw [hq] at Ho he ⊢
    have d1 : (q != 0) = true := by simpa using he
    clear hs hq he
    go_enter Try.func21, Try.ntmps21
    go_wp2_with fail
    refine (Ho.out _ HG0.out.sh).mono ?_
    rintro e w4 ⟨rfl, hb⟩
    have HG1 := Lib.hid (HG0.out.later hb)
    clear hb HG0 g0 g1 g2 g3
    obtain ⟨g0, g1, g2, g3⟩ := HG1.out.cells
    go_wp2
    go_ret2
    exact ⟨rfl, HG1.out.bel⟩
set_option maxRecDepth 100000 in
set_option maxHeartbeats 4000000 in
theorem shortA_any : Calls Try.prog 23 #[.agg #[.slice SA sn sc, .slice PA pn pc, .slice OA on oc]] w fun e w' => e = .returned (.tuple #[.int .i64 (shortR S P O).1, .int .i64 (shortR S P O).2]) ∧ Below w.heap.size w w' := by
  obtain rfl := hs.stk.len
  obtain rfl := hs.prc.len
  obtain rfl := hs.ord.len
  have HG0 := Lib.hid (GW.start hs)
  obtain ⟨g0, g1, g2, g3⟩ := HG0.out.cells
  unfold shortR
  by_cases he : shopE S P O = 0
  · rw [if_neg (fun h => h he)]
    have hF := fine_of he
    have Hsh := Lib.hid (fun T W (h : StIn W T SA S.length sc PA P.length pc OA O.length oc S P O (stockM S)) (k : Nat) hk => short_any T k SA S.length sc PA P.length pc OA O.length oc S P O (stockM S) W h hk hF.o8 (fun o ho => (hF.ord o ho).2) (fun j _ => by have := hF.ok.stk j; omega))
    have Ho := Lib.hid (fun W (h : ShopIn W W.heap.size SA S.length sc PA P.length pc OA O.length oc S P O) => open_ok SA S.length sc PA P.length pc OA O.length oc S P O W h he)
    have n5 := hF.n5
    obtain ⟨res, hres⟩ : ∃ res : Int × Int, firstF S.length O (stockM S) = res := ⟨_, rfl⟩
    rw [hres]
    have Hres := Lib.hid hres
    clear hs hF he hres
    go_enter Try.func23, Try.ntmps23
    go_wp2_with fail
    refine (Ho.out _ HG0.out.sh).mono ?_
    rintro e w5 ⟨T, rfl, hb, hst, hT⟩
    have HG1 := Lib.hid (HG0.out.later hb)
    clear hb HG0 g0 g1 g2 g3
    obtain ⟨g0, g1, g2, g3⟩ := HG1.out.cells
    have HO1 := Lib.hid hst
    clear hst hT
    obtain ⟨o0, o1, o2, o3⟩ := HO1.out.cells
    go_wp2_with fail
    refine loop_n (fun m b W => b.defers = [] ∧ ∃ i : Nat, i + m = S.length ∧ Hid (GW w W w.heap.size SA S.length sc PA P.length pc OA O.length oc S P O) ∧ Hid (StIn W T SA S.length sc PA P.length pc OA O.length oc S P O (stockM S)) ∧ Hid (∀ j, j < i → decide (0 < shortI O (stockM S) j) = false) ∧ Fits (none :: some (.pointer (some ⟨w.heap.size, 0, none⟩)) :: none :: none :: some (.pointer (some ⟨T, 0, none⟩)) :: none :: none :: none :: none :: none :: none :: none :: none :: none :: none :: none :: none :: some (.int .i64 (S.length : Int)) :: some (.int .i64 (i : Nat)) :: none :: none :: none :: none :: none :: none :: none :: none :: []) b.tmps.toList) S.length ?_ ?_
    · refine ⟨rfl, 0, by omega, HG1, HO1, Lib.hid (fun j h => by omega), ?_⟩
      repeat (first | exact fits_nil | refine fits_none ?_ | refine fits_some ?_)
    clear HG1 HO1 g0 g1 g2 g3 o0 o1 o2 o3
    intro m b W hI K hK
    obtain ⟨hds, i, him, HG0, HO0, HN, hfit⟩ := hI
    obtain ⟨f, hf⟩ := fits_act hfit
    rw [hds] at hf
    subst hf
    clear hfit hds
    simp only [fillP, Nat.reduceAdd]
    obtain ⟨g0, g1, g2, g3⟩ := HG0.out.cells
    obtain ⟨o0, o1, o2, o3⟩ := HO0.out.cells
    by_cases hlt : i < S.length
    · have i1 : (i : Int) < (S.length : Int) := by omega
      have i2 : (0 : Int) ≤ (i : Int) := by omega
      have i3 : IntKind.i64.wrap ((i : Int) + 1) = (i : Int) + 1 := by rw [IntKind.wrap_i64]; omega
      have i5 : i < 5 := by omega
      have Him := Lib.hid (show i + m = S.length ∧ i < S.length from ⟨him, hlt⟩)
      clear him hlt
      go_wp2_with fail
      refine (Hsh.out T _ HO0.out i i5).mono ?_
      rintro e w6 ⟨rfl, hb⟩
      have HG1 := Lib.hid (HG0.out.later hb)
      have HO1 := Lib.hid (HO0.out.later hb)
      clear hb HG0 HO0 g0 g1 g2 g3 o0 o1 o2 o3
      obtain ⟨g0, g1, g2, g3⟩ := HG1.out.cells
      obtain ⟨o0, o1, o2, o3⟩ := HO1.out.cells
      generalize hq : shortI O (stockM S) i = q
      have Hq := Lib.hid hq
      clear hq
      cases hd : decide (0 < q) with
      | true =>
        have HR := Lib.hid (show res = ((i : Int), 0) by rw [← Hres.out]; unfold firstF; rw [find_at Him.out.2 (by rw [Hq.out]; exact hd) HN.out])
        clear hK
        go_wp2
        go_ret2
        exact ⟨ret_two (by rw [HR.out]) (by rw [HR.out]), HG1.out.bel⟩
      | false =>
        have HN2 := Lib.hid (show ∀ j, j < i + 1 → decide (0 < shortI O (stockM S) j) = false from fun j hj => by
          rcases Nat.lt_or_ge j i with h | h
          · exact HN.out j h
          · obtain rfl : j = i := by omega
            rw [Hq.out]; exact hd)
        go_wp2
        refine hK _ _ (m - 1) (by have := Him.out; omega) ⟨rfl, i + 1, by have := Him.out; omega, HG1, HO1, HN2, ?_⟩
        repeat (first | exact fits_nil | refine fits_none ?_ | refine fits_some ?_)
    have i1 : ¬ (i : Int) < (S.length : Int) := by omega
    have HR := Lib.hid (show res = (0, 5) by rw [← Hres.out]; unfold firstF; rw [find_no (fun j hj => HN.out j (by omega))])
    clear hK him hlt
    go_wp2
    go_ret2
    exact ⟨ret_two (by rw [HR.out]) (by rw [HR.out]), HG0.out.bel⟩
  · rw [if_pos he]
    have Ho := Lib.hid (fun W (h : ShopIn W W.heap.size SA S.length sc PA P.length pc OA O.length oc S P O) => open_bad SA S.length sc PA P.length pc OA O.length oc S P O W h he)
    obtain ⟨q, hq⟩ : ∃ q, shopE S P O = q := ⟨_, rfl⟩
    rw [hq] at Ho he ⊢
    have d1 : (q != 0) = true := by simpa using he
    clear hs hq he
    go_enter Try.func23, Try.ntmps23
    go_wp2_with fail
    refine (Ho.out _ HG0.out.sh).mono ?_
    rintro e w7 ⟨rfl, hb⟩
    have HG1 := Lib.hid (HG0.out.later hb)
    clear hb HG0 g0 g1 g2 g3
    obtain ⟨g0, g1, g2, g3⟩ := HG1.out.cells
    go_wp2
    go_ret2
    exact ⟨rfl, HG1.out.bel⟩
set_option maxHeartbeats 2000000 in
theorem spentA_bad (hne : filE S P O ≠ 0) : Calls Try.prog 27 #[.agg #[.slice SA sn sc, .slice PA pn pc, .slice OA on oc]] w fun e w' => e = .returned (.tuple #[.slice none 0 0, .int .i64 (filE S P O)]) ∧ Below w.heap.size w w' := by
  obtain rfl := hs.stk.len
  obtain rfl := hs.prc.len
  obtain rfl := hs.ord.len
  have HG0 := Lib.hid (GW.start hs)
  obtain ⟨g0, g1, g2, g3⟩ := HG0.out.cells
  have Ho := Lib.hid (fun W (h : ShopIn W W.heap.size SA S.length sc PA P.length pc OA O.length oc S P O) => filled_bad SA S.length sc PA P.length pc OA O.length oc S P O W h hne)
  obtain ⟨q, hq⟩ : ∃ q, filE S P O = q := ⟨_, rfl⟩
  rw [hq] at Ho hne ⊢
  have d1 : (q != 0) = true := by simpa using hne
  clear hs hq hne
  go_enter Try.func27, Try.ntmps27
  go_wp2_with fail
  refine (Ho.out _ HG0.out.sh).mono ?_
  rintro e w8 ⟨rfl, hb⟩
  have HG1 := Lib.hid (HG0.out.later hb)
  clear hb HG0 g0 g1 g2 g3
  obtain ⟨g0, g1, g2, g3⟩ := HG1.out.cells
  go_wp2
  go_ret2
  exact ⟨rfl, HG1.out.bel⟩
set_option maxRecDepth 100000 in
set_option maxHeartbeats 4000000 in
theorem spentA_ok (hf : filE S P O = 0) : Calls Try.prog 27 #[.agg #[.slice SA sn sc, .slice PA pn pc, .slice OA on oc]] w fun e w' => ∃ b, e = .returned (.tuple #[.slice (some ⟨b, 0, none⟩) S.length S.length, .int .i64 0]) ∧ Below w.heap.size w w' ∧ Sl 1 encI w' w'.heap.size (some ⟨b, 0, none⟩) S.length S.length (spL S.length O (stockM S)) := by
  obtain rfl := hs.stk.len
  obtain rfl := hs.prc.len
  obtain rfl := hs.ord.len
  have HG0 := Lib.hid (GW.start hs)
  obtain ⟨g0, g1, g2, g3⟩ := HG0.out.cells
  have Ho := Lib.hid (fun W (h : ShopIn W W.heap.size SA S.length sc PA P.length pc OA O.length oc S P O) => filled_ok SA S.length sc PA P.length pc OA O.length oc S P O W h hf)
  have Hsp := Lib.hid (fun T W (h : StIn W T SA S.length sc PA P.length pc OA O.length oc S P O (stockM S)) => spentV_any T SA S.length sc PA P.length pc OA O.length oc S P O (stockM S) W h ((fine_of (filE_zero hf).1).ok.more (by omega)) (filE_zero hf).2)
  have hn5 := Lib.hid (fine_of (filE_zero hf).1).n5
  clear hs hf
  go_enter Try.func27, Try.ntmps27
  go_wp2_with fail
  refine (Ho.out _ HG0.out.sh).mono ?_
  rintro e w9 ⟨T, rfl, hb, hst⟩
  have HG1 := Lib.hid (HG0.out.later hb)
  clear hb HG0 g0 g1 g2 g3
  obtain ⟨g0, g1, g2, g3⟩ := HG1.out.cells
  have HO1 := Lib.hid hst
  clear hst
  obtain ⟨o0, o1, o2, o3⟩ := HO1.out.cells
  go_wp2_with fail
  refine (Hsp.out T _ HO1.out).mono ?_
  rintro e w10 ⟨G, rfl, hb, hg, hgb⟩
  have HG2 := Lib.hid (HG1.out.later hb)
  have HO2 := Lib.hid (HO1.out.later hb)
  clear hb HG1 HO1 g0 g1 g2 g3 o0 o1 o2 o3
  obtain ⟨g0, g1, g2, g3⟩ := HG2.out.cells
  obtain ⟨o0, o1, o2, o3⟩ := HO2.out.cells
  have Hg := Lib.hid hg
  clear hg hgb
  have hmk := make_longs S.length (by have := hn5.out; omega)
  have hA1 := balloc (brefl w10) (.cells (ctsA G) 81)
  have hA2 := balloc hA1 (.cells (numArr S.length (fun _ => 0)) 2)
  have HS := Lib.hid ((Blk.new w10 81 (ctsA G)).alloc (.cells (numArr S.length (fun _ => 0)) 2))
  have hD := Blk.new (w10.alloc (.cells (ctsA G) 81)) 2 (numArr S.length (fun _ => 0))
  rw [World.size_alloc] at hD
  have HD := Lib.hid hD
  have HX := Lib.hid (HG2.out.later hA2)
  have HA := Lib.hid hA2
  clear hA1 hA2 hD
  have Hsrc := Lib.hid (fun (j : Nat) v (h : (((List.range S.length).map fun j => Value.int .i64 (G j))[j]? = some v)) => (show (((w10.alloc (.cells (ctsA G) 81)).alloc (.cells (numArr S.length (fun _ => 0)) 2)).cell? ((⟨w10.heap.size, 0, none⟩ : Addr).add j) = some v) from by
    rw [List.getElem?_map, Option.map_eq_some_iff] at h
    obtain ⟨x, hx, rfl⟩ := h
    have hj := (List.getElem?_eq_some_iff.1 hx).1
    rw [List.length_range] at hj
    obtain rfl : j = x := by simpa [hj] using hx
    rw [show (⟨w10.heap.size, 0, none⟩ : Addr).add j = ⟨w10.heap.size, j, none⟩ from by unfold Addr.add; split <;> simp_all]
    exact cts_cell HS.out (by have := hn5.out; omega)))
  unfold ctsA at HD HS HX HA Hsrc ⊢
  obtain ⟨cs, hcs⟩ : ∃ cs, ((List.range S.length).map fun j => Value.int .i64 (G j)) = cs := ⟨_, rfl⟩
  have hcl : cs.length = S.length := by rw [← hcs]; simp
  have hc1 : cs.length = Nat.min 5 S.length := by have h1 := hn5.out; have : Nat.min 5 S.length = min 5 S.length := rfl; omega
  have hc2 : 0 + cs.length ≤ (numArr S.length (fun _ => 0)).toList.length := by simp [numArr, hcl]
  have hc3 : ∀ v ∈ cs, v.oneCell' = true := by rw [← hcs]; simp [Value.oneCell']
  rw [hcs] at Hsrc
  go_wp2_with (refine wpList_copy_splice rfl _ _ 22 22 rfl 2 und_longs (by kernel_rfl) (some ⟨w10.heap.size + 1, 0, none⟩) (some ⟨w10.heap.size, 0, none⟩) S.length S.length 5 5 rfl rfl (w10.heap.size + 1) 0 (numArr S.length (fun _ => 0)).toList 2 HD.out cs hc1 (fun h => ⟨rfl, _, rfl, Hsrc.out⟩) hc2 hc3 w10.heap.size w10 HA.out (Nat.le_succ _) ?_; intro w4 hg4 hb4; have HB4 := Lib.hid hb4; clear hb4)
  have hq : splice (numArr S.length (fun _ => 0)).toList 0 cs = (spL S.length O (stockM S)).map (Value.int .i64) := by
    unfold splice spL
    have hd : (numArr S.length (fun _ => 0)).toList.drop (0 + cs.length) = [] := List.drop_eq_nil_of_le (by simp [numArr, hcl])
    rw [hd, List.take_zero, List.nil_append, List.append_nil, ← hcs, List.map_map]
    exact List.map_congr_left fun j hj => by rw [Hg.out j (List.mem_range.1 hj)]; rfl
  have hg5 : Blk w4 (w10.heap.size + 1) 2 ((spL S.length O (stockM S)).map (Value.int .i64)).toArray := by rw [← hq]; exact hg4.out
  have hX := HG2.out.later HB4.out
  go_ret2
  refine ⟨_, rfl, hX.bel, ?_⟩
  exact lit_sl hg5 hg5.lt (by simp [spL]) (by have := hn5.out; omega)
end
end Go.Proofs.Ytmfiggbobaihcaa
