/- The walk of SteamMore. -/
import Derived.Test.YtbbdlebmagknmaaSMore
namespace Go.Proofs.Ytbbdlebmagknmaa
open Go.RowKit Go.Shelf

/-- A log with a wider range. -/
def widerR (d : Int) (r : Rg) : Rg := ⟨max 0 (r.lo - d), min 100 (r.hi + d.tdiv 2)⟩
theorem wider_ok {d : Int} {r : Rg} (hd : 0 ≤ d ∧ d ≤ 255) (hr : 0 ≤ r.lo ∧ r.lo ≤ r.hi ∧ r.hi ≤ 100) : (0 ≤ (widerR d r).lo ∧ (widerR d r).lo ≤ (widerR d r).hi ∧ (widerR d r).hi ≤ 100) ∧ (widerR d r).lo ≤ r.lo ∧ r.hi ≤ (widerR d r).hi := by
  unfold widerR
  rw [Int.tdiv_eq_ediv_of_nonneg hd.1]
  simp only
  omega
set_option maxRecDepth 100000 in
set_option maxHeartbeats 8000000 in
theorem more_law (L : Int) (A : Option Addr) (n c : Nat) (rs : List Rg) (mr : Rg) (wh wd : Int) (w : World) (hs : Sl 2 encR w w.heap.size A n c rs) (hwh : 0 ≤ wh ∧ wh ≤ 255) (hwd : 0 ≤ wd ∧ wd ≤ 255) :
    Calls Try.prog 12 #[.agg #[.int .i64 L, .slice A n c], .agg #[.int .i64 mr.lo, .int .i64 mr.hi], .int .u8 wh, .int .u8 wd] w fun e w' => e = .returned (.bool true) ∧ Below w.heap.size w w' := by
  have hB := balloc (balloc (brefl w) (.cells #[.int .i64 L, .slice A n c] 24)) (.cells #[.int .i64 mr.lo, .int .i64 mr.hi] 27)
  have hbl := Blk.new (w.alloc (.cells #[.int .i64 L, .slice A n c] 24)) 27 #[.int .i64 mr.lo, .int .i64 mr.hi]
  rw [World.size_alloc] at hbl
  have HK0 := Lib.hid (show LW w ((w.alloc (.cells #[.int .i64 L, .slice A n c] 24)).alloc (.cells #[.int .i64 mr.lo, .int .i64 mr.hi] 27)) w.heap.size L A n c rs from ⟨hB, (Blk.new w _ _).alloc _, hs.later hB⟩)
  have HR0 := Lib.hid hbl
  clear hB hbl
  obtain ⟨c0, c1, c2⟩ := HK0.out.cells
  by_cases hy : yardE L rs = 0
  case neg =>
    have Hf := Lib.hid (fun W (h : Sl 2 encR W W.heap.size A n c rs) => fine_bad L A n c rs W h hy)
    clear hs hy
    go_enter Try.func12, Try.ntmps12
    go_wp2_with fail
    refine (Hf.out _ HK0.out.sl).mono ?_
    rintro e w1 ⟨rfl, hb⟩
    have HK1 := Lib.hid (HK0.out.later hb)
    have HR1 := Lib.hid (HR0.out.later hb)
    clear hb HK0 HR0 c0 c1 c2
    obtain ⟨c0, c1, c2⟩ := HK1.out.cells
    go_wp2_with fail
    refine (works_any _).mono ?_
    rintro e we ⟨rfl, hbe⟩
    have HBE := Lib.hid (Below.later HK1.out.bel hbe)
    clear hbe
    go_wp2
    go_ret
    exact ⟨rfl, HBE.out⟩
  case pos =>
  have Hf := Lib.hid (fun W (h : Sl 2 encR W W.heap.size A n c rs) => fine_ok L A n c rs W h hy)
  obtain ⟨Ln, rfl, hLn, hr⟩ := yard_nat hy
  have hnl := hs.len
  have hn10 : n ≤ 10 := by rw [← hnl]; exact hr.1
  by_cases hge : n = 10
  · have hd : (10 : Int) ≤ (n : Int) := by omega
    clear hs hy hr hge
    go_enter Try.func12, Try.ntmps12
    go_wp2_with fail
    refine (Hf.out _ HK0.out.sl).mono ?_
    rintro e w2 ⟨rfl, hb⟩
    have HK1 := Lib.hid (HK0.out.later hb)
    have HR1 := Lib.hid (HR0.out.later hb)
    clear hb HK0 HR0 c0 c1 c2
    obtain ⟨c0, c1, c2⟩ := HK1.out.cells
    go_wp2_with fail
    refine (works_any _).mono ?_
    rintro e we ⟨rfl, hbe⟩
    have HBE := Lib.hid (Below.later HK1.out.bel hbe)
    clear hbe
    go_wp2
    go_ret
    exact ⟨rfl, HBE.out⟩
  have hd : ¬ ((10 : Int) ≤ (n : Int)) := by omega
  have Hy := Lib.hid hy
  have Hr := Lib.hid hr
  have Hnl := Lib.hid hnl
  obtain ⟨v, hv⟩ : ∃ v, LA rs Ln 101 = v := ⟨_, rfl⟩
  have Hv := Lib.hid hv
  have Hv0 := Lib.hid (show n = 0 → v = 0 from fun h => by
    have : rs = [] := List.length_eq_zero_iff.1 (hnl.trans h)
    rw [← hv, this]
    obtain ⟨u, e1, c1, _⟩ := la_chain (rs := []) (L := Ln) ⟨by simp, by simp⟩ hLn.1
    rw [e1]
    cases c1 with
    | nil => rfl
    | cons _ _ _ x _ hx => simp at hx)
  have HF1 := Lib.hid (fun (hL10 : Ln < 10) W (h : Sl 2 encR W W.heap.size A n c rs) => show Calls Try.prog 40 #[.agg #[.int .i64 ((Ln : Int) + 1), .slice A n c]] W (fun e w' => ∃ g hh, e = .returned (.tuple #[.int .i64 (LA rs (Ln + 1) 101), .slice (some ⟨g, 0, none⟩) n n, .bool true]) ∧ Below W.heap.size W w' ∧ Sl 1 encI w' w'.heap.size (some ⟨g, 0, none⟩) n n hh ∧ hoursE ((Ln : Int) + 1) rs hh = 0 ∧ hoursV ((Ln : Int) + 1) rs hh = LA rs (Ln + 1) 101) from
    fewestL_any (Ln + 1) A n c rs W h (yard_of (L := ((Ln + 1 : Nat) : Int)) (by omega) hr))
  clear hs hy hr hge hv hnl
  go_enter Try.func12, Try.ntmps12
  go_wp2_with fail
  refine (Hf.out _ HK0.out.sl).mono ?_
  rintro e w3 ⟨rfl, hb⟩
  have HK1 := Lib.hid (HK0.out.later hb)
  have HR1 := Lib.hid (HR0.out.later hb)
  clear hb HK0 HR0 c0 c1 c2
  obtain ⟨c0, c1, c2⟩ := HK1.out.cells
  go_wp2_with fail
  refine (fewestL_any Ln A n c rs _ HK1.out.sl Hy.out).mono ?_
  rintro e w4 ⟨g1, hh1, rfl, hb, _, he1, hv1⟩
  have HK2 := Lib.hid (HK1.out.later hb)
  have HR2 := Lib.hid (HR1.out.later hb)
  clear hb HK1 HR1 c0 c1 c2
  obtain ⟨c0, c1, c2⟩ := HK2.out.cells
  rw [Hv.out]
  rw [Hv.out] at hv1
  obtain ⟨a1, a2, a3⟩ := hours_of he1
  have HF2 := Lib.hid (show Ln < 10 → LA rs (Ln + 1) 101 ≤ v from fun _ => by
    have h := la_room Hr.out hLn.1 a1 a2 (by rw [← a3, hv1, Hv.out])
    rw [Hv.out] at h
    exact h)
  have HF3 := Lib.hid (show ∀ r, RsOk (rs ++ [r]) → v ≤ LA (rs ++ [r]) Ln 101 ∧ LA (rs ++ [r]) Ln 101 ≤ v + 1 from fun r h => by
    have h := la_more h hLn.1 a1 a2 (by rw [← a3, hv1, Hv.out])
    rw [Hv.out] at h
    exact h)
  have HF4 := Lib.hid (show ∀ (i : Nat) (r z : Rg), RsOk (rs.set i z) → rs[i]? = some r → z.lo ≤ r.lo → r.hi ≤ z.hi → LA (rs.set i z) Ln 101 ≤ v from fun i r z h1 h2 h3 h4 => by
    have h := la_wider h1 hLn.1 h2 h3 h4 a1 a2 (by rw [← a3, hv1, Hv.out])
    rw [Hv.out] at h
    exact h)
  clear he1 hv1 a1 a2 a3
  have f0 := HR2.out.cell 0
  have f1 := HR2.out.cell 1
  have f2 := HR2.out.lt
  go_wp2_with fail
  refine dagFresh 11 8 27 (fun i => !(i == 5) && !(i == 7) && !(i == 8)) (fun i => i == 9) (by kernel_rfl) (by kernel_rfl) (.is ?_ :: .is ?_ :: .is ?_ :: .is ?_ :: .is ?_ :: .like (OwnRs w4.heap.size rs) :: .is ?_ :: .like (OneR w4.heap.size mr.lo mr.hi) :: .like (OwnRs w4.heap.size (rs ++ [mr])) :: .like (OwnY w4.heap.size (Ln : Int) (rs ++ [mr])) :: .like (NewY w4.heap.size) :: []) rfl ?st1 ?gd1 (by kernel_rfl) ?stb1 ?ob1
  case st1 => repeat (first | exact stab_nil | refine stab_is ?_ | refine stab_like (OneR.stab _ _) ?_ | refine stab_like (OwnRs.stab _) ?_ | refine stab_like (OwnY.stab _ _) ?_ | refine stab_like NewY.stab ?_)
  case gd1 => intro o ho; cases ho; rfl
  case stb1 => repeat (first | exact trivial | refine ⟨fun h => absurd h (by decide), ?_⟩ | refine ⟨fun _ _ _ _ _ h => h, ?_⟩ | refine ⟨fun _ _ _ _ hT h => h.kept hT.2, ?_⟩)
  case ob1 =>
  intro env V hG
  obtain ⟨hc, hf⟩ := bcell hG
  have HG := Lib.hid hG
  iterate 2 (refine oblsA_is (show _ ≠ (8 : Nat) by decide) ?_ ?_; unfold doesAt; go_simp; (try go_bits); (first | (refine ⟨brefl _, ?_⟩; rfl) | rfl); intro K hK; go_simp; refine hK _ ?_; clear hK K)
  refine oblsA_is (show _ ≠ (8 : Nat) by decide) ?_ ?_
  · unfold doesAt
    go_simp
    refine (ranges_any none 0 0 V).mono ?_
    rintro e w1 ⟨rfl, hb1⟩
    (refine ⟨?_, hb1⟩; rfl)
  intro K hK
  go_simp
  refine hK _ ?_
  clear hK K
  iterate 2 (refine oblsA_is (show _ ≠ (8 : Nat) by decide) ?_ ?_; unfold doesAt; go_simp; (try go_bits); (first | (refine ⟨brefl _, ?_⟩; rfl) | rfl); intro K hK; go_simp; refine hK _ ?_; clear hK K)
  refine oblsA_like (show _ ≠ (8 : Nat) by decide) (fun _ => ?_) ?_
  · refine app_of_run rfl (.tmp 44) (.tmp 46) 22 rfl rfl rfl ?_
    obtain ⟨v', W', h1, h2, h3⟩ := run_app_rs (W := V) (base := w4.heap.size) (v := .slice none 0 0) (xs := []) 22 (World.ownsRow_nil _ _ _ _) (HK2.out.sl.later HG.out) (by simp; omega) HG.out.size
    exact ⟨v', W', h1, below_none h2, by simpa using h3⟩
  intro K hK
  go_simp
  refine hK _ ?_
  clear hK K
  (refine oblsA_is (show _ ≠ (8 : Nat) by decide) ?_ ?_; unfold doesAt; go_simp; (try go_bits); (first | (refine ⟨brefl _, ?_⟩; rfl) | rfl); intro K hK; go_simp; refine hK _ ?_; clear hK K)
  refine oblsA_like (show _ ≠ (8 : Nat) by decide) (fun _ => ?_) ?_
  · unfold doesAt
    go_simp
    have hbn := Blk.new V 27 #[.int .i64 mr.lo, .int .i64 mr.hi]
    exact ⟨balloc (brefl V) _, V.heap.size, rfl, HG.out.size, hbn.lt, hbn.cell 0, hbn.cell 1⟩
  intro K hK
  go_simp
  refine hK _ ?_
  clear hK K
  refine oblsA_app rfl (fun hl hp => ?_) ?_
  · have h5 : OwnRs w4.heap.size rs (env 5) V := hl ⟨5, .data⟩ (by simp) rfl (.inl rfl)
    obtain ⟨g, hE, hg1, hg2, hg3, hg4⟩ : OneR w4.heap.size mr.lo mr.hi (env 7) V := hl ⟨7, .data⟩ (by simp) rfl (.inl rfl)
    refine app_of_run rfl (.tmp 47) (.tmp 49) 22 rfl rfl hE ?_
    obtain ⟨v', W', h1, h2, h3⟩ := run_app_rgB (W := V) (x := mr) 22 rfl h5 (one_news hg3 hg4) (by rw [Hnl.out]; omega) HG.out.size
    exact ⟨v', W', h1, grT_of_own h2 h5 (Nat.le_refl _), h3⟩
  intro K hK
  go_simp
  refine hK _ ?_
  clear hK K
  refine oblsA_like (show _ ≠ (8 : Nat) by decide) (fun hl => ?_) ?_
  · have h8 : OwnRs w4.heap.size (rs ++ [mr]) (env 8) V := hl ⟨8, .data⟩ (by simp) rfl (.inr (.inl rfl))
    have hln : (rs ++ [mr]).length = n + 1 := by rw [List.length_append, Hnl.out]; rfl
    have h8' := h8
    unfold OwnRs at h8'
    rw [hln] at h8'
    obtain ⟨G8, k8, he8, _⟩ := own_slG (k := 2) (enc := encR) (fun _ => rfl) h8' hln
    rw [he8] at h8
    unfold doesAt
    simp only [he8]
    go_simp
    exact ⟨brefl V, _, rfl, h8⟩
  intro K hK
  go_simp
  refine hK _ ?_
  clear hK K
  refine oblsA_like (show _ ≠ (8 : Nat) by decide) (fun _ => ?_) ?_
  · unfold doesAt
    go_simp
    exact ⟨balloc (brefl V) _, V.heap.size, rfl, HG.out.size, Blk.new V _ _⟩
  intro K hK
  go_simp
  refine hK _ ?_
  clear hK K
  refine oblsA_last (fun hok => ?_)
  have h9 : OwnY w4.heap.size (Ln : Int) (rs ++ [mr]) (env 9) V := hok 9 _ rfl (.inr rfl)
  have h10 : NewY w4.heap.size (env 10) V := hok 10 _ rfl (.inr rfl)
  obtain ⟨u, he9, h9⟩ := h9
  obtain ⟨g, he10, hg1, hg2⟩ := h10
  obtain ⟨A', c', rfl, hX⟩ := made_lw (w := w) (L := (Ln : Int)) (Below.later HK2.out.bel HG.out) HK2.out.bel.size hg1 hg2 h9
  have hln : (rs ++ [mr]).length = n + 1 := by rw [List.length_append, Hnl.out]; rfl
  rw [hln] at hX he9
  have x0 := hg2.cell 0
  have x1 := hg2.cell 1
  have x2 := hg2.frozen 0
  have x3 := hg2.frozen 1
  have x4 := hg2.lt
  have hbb := Lib.hid (bset (bset HG.out (p := ⟨g, 0, none⟩) hg1 (.int .i64 (Ln : Int))) (p := ⟨g, 1, none⟩) hg1 (.slice A' (n + 1) c'))
  have HX := Lib.hid hX
  rw [he9, he10]
  clear hok h9 hg1 hg2 hG hX hc hf f0 f1 f2
  unfold doesAt
  go_simp
  obtain ⟨wz, hwz⟩ : ∃ x, (V.setCell ⟨g, 0, none⟩ (.int .i64 (Ln : Int))).setCell ⟨g, 1, none⟩ (.slice A' (n + 1) c') = x := ⟨_, rfl⟩
  rw [hwz] at HX hbb ⊢
  clear hwz x0 x1 x2 x3 x4
  have HK3 := Lib.hid (HK2.out.later (hbb.out))
  clear HK2 c0 c1 c2
  obtain ⟨c0, c1, c2⟩ := HK3.out.cells
  have HX3 := HX
  clear HX hbb HG he9 he10
  clear V
  obtain ⟨d0, d1, d2⟩ := HX3.out.cells
  by_cases hyx : yardE (Ln : Int) (rs ++ [mr]) = 0
  · have Hyx := Lib.hid hyx
    obtain ⟨_, hrx⟩ := yard_ok hyx
    have hmm := HF3.out mr hrx
    obtain ⟨mx, hmx⟩ : ∃ m, LA (rs ++ [mr]) Ln 101 = m := ⟨_, rfl⟩
    rw [hmx] at hmm
    have Hmx := Lib.hid hmx
    have hm1 : ¬ (mx < v) := by omega
    have hm2 : ¬ (v + 1 < mx) := by omega
    have hm3 : IntKind.i64.wrap (v + 1) = v + 1 := by
      have h1 := la_bound Hr.out hLn 101
      have h2 := la_nonneg rs Ln 101
      rw [Hv.out] at h1 h2
      rw [IntKind.wrap_i64]
      omega
    have Hfx := Lib.hid (fun W (h : Sl 2 encR W W.heap.size A' (n + 1) c' (rs ++ [mr])) => fine_ok (Ln : Int) A' (n + 1) c' (rs ++ [mr]) W h hyx)
    clear hyx hrx hmm hmx
    go_wp2_with fail
    refine (Hfx.out _ HX3.out.sl).mono ?_
    rintro e w5 ⟨rfl, hb⟩
    have HK4 := Lib.hid (HK3.out.later hb)
    have HX4 := Lib.hid (HX3.out.later hb)
    clear hb HK3 HX3 c0 c1 c2 d0 d1 d2
    obtain ⟨c0, c1, c2⟩ := HK4.out.cells
    obtain ⟨d0, d1, d2⟩ := HX4.out.cells
    go_wp2_with fail
    refine (fewestL_any Ln A' (n + 1) c' (rs ++ [mr]) _ HX4.out.sl Hyx.out).mono ?_
    rintro e w6 ⟨gx, hx, rfl, hb, _, _, _⟩
    have HK5 := Lib.hid (HK4.out.later hb)
    have HX5 := Lib.hid (HX4.out.later hb)
    clear hb HK4 HX4 c0 c1 c2 d0 d1 d2
    obtain ⟨c0, c1, c2⟩ := HK5.out.cells
    obtain ⟨d0, d1, d2⟩ := HX5.out.cells
    rw [Hmx.out]
    clear HX5 d0 d1 d2
    by_cases hL10 : Ln < 10
    · have hl1 : (Ln : Int) < 10 := by omega
      have hl2 : IntKind.i64.wrap ((Ln : Int) + 1) = (Ln : Int) + 1 := by rw [IntKind.wrap_i64]; omega
      go_wp2_with fail
      refine (HF1.out hL10 _ HK5.out.sl).mono ?_
      rintro e w7 ⟨ga, ha, rfl, hb, _, _, _⟩
      have HK6 := Lib.hid (HK5.out.later hb)
      clear hb HK5 c0 c1 c2
      obtain ⟨c0, c1, c2⟩ := HK6.out.cells
      have hle := HF2.out hL10
      obtain ⟨m1, hm1⟩ : ∃ m, LA rs (Ln + 1) 101 = m := ⟨_, rfl⟩
      rw [hm1] at hle ⊢
      have hle2 : ¬ (v < m1) := by omega
      clear hm1
      by_cases hn0 : n = 0
      · have hv0 : v = 0 := Hv0.out hn0
        have hnn : (n : Int) = 0 := by omega
        subst hn0
        subst hv0
        go_wp2_with fail
        refine (works_any _).mono ?_
        rintro e we ⟨rfl, hbe⟩
        have HBE := Lib.hid (Below.later HK6.out.bel hbe)
        clear hbe
        go_wp2
        go_ret
        exact ⟨rfl, HBE.out⟩
      · have hnn : ¬ ((n : Int) = 0) := by omega
        obtain ⟨i, hi⟩ : ∃ i : Nat, wh.tmod (n : Int) = (i : Int) := ⟨(wh.tmod (n : Int)).toNat, by
          rw [Int.tmod_eq_emod_of_nonneg hwh.1]
          have := Int.emod_nonneg wh (b := (n : Int)) (by omega)
          omega⟩
        have hil : i < n := by
          have h1 := Int.emod_lt_of_pos wh (b := (n : Int)) (by omega)
          rw [Int.tmod_eq_emod_of_nonneg hwh.1] at hi
          omega
        have k1 : (i : Int) < (n : Int) := by omega
        have k2 : (0 : Int) ≤ (i : Int) := by omega
        have k3 : IntKind.i64.wrap wh = wh := by rw [IntKind.wrap_i64]; omega
        have k4 : IntKind.i64.wrap wd = wd := by rw [IntKind.wrap_i64]; omega
        have k5 : IntKind.i64.wrap (i : Int) = (i : Int) := by rw [IntKind.wrap_i64]; omega
        go_wp2_with fail
        refine dag 8 (by kernel_rfl) (by kernel_rfl) (.is ?_ :: .is ?_ :: .is ?_ :: .is ?_ :: .is ?_ :: .like (OwnRs w7.heap.size rs) :: .like (OwnY w7.heap.size (Ln : Int) rs) :: .like (NewY w7.heap.size) :: []) rfl ?staaa ?obaaa
        case staaa => repeat (first | exact stab_nil | refine stab_is ?_ | refine stab_like (OwnRs.stab _) ?_ | refine stab_like (OwnY.stab _ _) ?_ | refine stab_like NewY.stab ?_)
        case obaaa =>
        intro env V hG
        obtain ⟨hc, hf⟩ := bcell hG
        have HG := Lib.hid hG
        iterate 2 (refine obls_is ?_ ?_; unfold doesAt; go_simp; (try go_bits); (first | (refine ⟨brefl _, ?_⟩; rfl) | rfl); intro K hK; go_simp; refine hK _ ?_; clear hK K)
        refine obls_is ?_ ?_
        · unfold doesAt
          go_simp
          refine (ranges_any none 0 0 V).mono ?_
          rintro e w1 ⟨rfl, hb1⟩
          (refine ⟨?_, hb1⟩; rfl)
        intro K hK
        go_simp
        refine hK _ ?_
        clear hK K
        iterate 2 (refine obls_is ?_ ?_; unfold doesAt; go_simp; (try go_bits); (first | (refine ⟨brefl _, ?_⟩; rfl) | rfl); intro K hK; go_simp; refine hK _ ?_; clear hK K)
        refine obls_like (fun _ => ?_) ?_
        · refine app_of_run rfl (.tmp 113) (.tmp 115) 22 rfl rfl rfl ?_
          obtain ⟨v', W', h1, h2, h3⟩ := run_app_rs (W := V) (base := w7.heap.size) (v := .slice none 0 0) (xs := []) 22 (World.ownsRow_nil _ _ _ _) (HK6.out.sl.later HG.out) (by simp; omega) HG.out.size
          exact ⟨v', W', h1, below_none h2, by simpa using h3⟩
        intro K hK
        go_simp
        refine hK _ ?_
        clear hK K
        refine obls_like (fun hl => ?_) ?_
        · have h8 : OwnRs w7.heap.size rs (env 5) V := hl ⟨5, .data⟩ (by simp) rfl
          have h8' := h8
          unfold OwnRs at h8'
          rw [Hnl.out] at h8'
          obtain ⟨G8, k8, he8, _⟩ := own_slG (k := 2) (enc := encR) (fun _ => rfl) h8' Hnl.out
          rw [he8] at h8
          unfold doesAt
          simp only [he8]
          go_simp
          exact ⟨brefl V, _, rfl, h8⟩
        intro K hK
        go_simp
        refine hK _ ?_
        clear hK K
        refine obls_like (fun _ => ?_) ?_
        · unfold doesAt
          go_simp
          exact ⟨balloc (brefl V) _, V.heap.size, rfl, HG.out.size, Blk.new V _ _⟩
        intro K hK
        go_simp
        refine hK _ ?_
        clear hK K
        refine obls_last (fun hok => ?_)
        have h9 : OwnY w7.heap.size (Ln : Int) rs (env 6) V := hok 6 _ rfl
        have h10 : NewY w7.heap.size (env 7) V := hok 7 _ rfl
        obtain ⟨u, he9, h9⟩ := h9
        obtain ⟨g, he10, hg1, hg2⟩ := h10
        have ho := made_own (L := (Ln : Int)) hg2 h9
        obtain ⟨A', c', rfl, hX⟩ := made_lw (w := w) (L := (Ln : Int)) (Below.later HK6.out.bel HG.out) HK6.out.bel.size hg1 hg2 h9
        rw [Hnl.out] at hX he9 ho
        obtain ⟨gz, cs, rfl, hgz, hzb⟩ := own_blk ho (by rw [Hnl.out]; omega)
        have x0 := hg2.cell 0
        have x1 := hg2.cell 1
        have x2 := hg2.frozen 0
        have x3 := hg2.frozen 1
        have x4 := hg2.lt
        have hbb := Lib.hid (bset (bset HG.out (p := ⟨g, 0, none⟩) hg1 (.int .i64 (Ln : Int))) (p := ⟨g, 1, none⟩) hg1 (.slice (some ⟨gz, 0, none⟩) n c'))
        have HZ := Lib.hid hX
        have Hzb := Lib.hid hzb
        have Hgz := Lib.hid hgz
        rw [he9, he10]
        clear hok h9 hg1 hg2 hG hX hc hf ho hzb hgz
        unfold doesAt
        go_simp
        obtain ⟨wy, hwy⟩ : ∃ x, (V.setCell ⟨g, 0, none⟩ (.int .i64 (Ln : Int))).setCell ⟨g, 1, none⟩ (.slice (some ⟨gz, 0, none⟩) n c') = x := ⟨_, rfl⟩
        rw [hwy] at HZ hbb Hzb ⊢
        clear hwy x0 x1 x2 x3 x4 HG he9 he10
        clear V
        obtain ⟨d0, d1, d2⟩ := HZ.out.cells
        obtain ⟨_, _, r, hA', hrb, hrx, g0, g1⟩ := HZ.out.sl.ltR hil
        cases hA'
        rw [Nat.zero_add] at g0 g1
        have hrr := Hr.out.2 r (List.mem_of_getElem? hrx)
        have hwr := wider_ok hwd hrr
        have hy2 := HF4.out i r (widerR wd r) (by
          refine ⟨by rw [List.length_set]; exact Hr.out.1, fun x hx => ?_⟩
          rcases List.mem_or_eq_of_mem_set hx with h | h
          · exact Hr.out.2 x h
          · rw [h]; exact hwr.1) hrx hwr.2.1 hwr.2.2
        have hyz : RsOk (rs.set i (widerR wd r)) := by
          refine ⟨by rw [List.length_set]; exact Hr.out.1, fun x hx => ?_⟩
          rcases List.mem_or_eq_of_mem_set hx with h | h
          · exact Hr.out.2 x h
          · rw [h]; exact hwr.1
        obtain ⟨q, hq⟩ : ∃ q, wd.tdiv 2 = q := ⟨_, rfl⟩
        have hqr : 0 ≤ q ∧ q ≤ 200 := by rw [← hq, Int.tdiv_eq_ediv_of_nonneg hwd.1]; omega
        have j1 : IntKind.i64.wrap (r.lo - wd) = r.lo - wd := by rw [IntKind.wrap_i64]; omega
        have j2 : IntKind.i64.wrap q = q := by rw [IntKind.wrap_i64]; omega
        have j3 : IntKind.i64.wrap (r.hi + q) = r.hi + q := by rw [IntKind.wrap_i64]; omega
        have Hyz := Lib.hid hyz
        have Hy2 := Lib.hid hy2
        obtain ⟨zz, hzz⟩ : ∃ z, widerR wd r = z := ⟨_, rfl⟩
        have hzl : (if wd < r.lo then r.lo - wd else 0) = zz.lo := by rw [← hzz]; unfold widerR; simp only; split <;> omega
        have hzh : (if r.hi + q < 100 then r.hi + q else 100) = zz.hi := by rw [← hzz]; unfold widerR; rw [hq]; simp only; split <;> omega
        have Hzl := Lib.hid hzl
        have Hzh := Lib.hid hzh
        rw [hzz] at Hyz Hy2
        clear hzz hzl hzh hrx hrr hwr hy2 hyz hqr
        go_wp2_with fail
        refine dag 24 (by kernel_rfl) (by kernel_rfl) (.is ?_ :: .is ?_ :: .is ?_ :: .is ?_ :: .is ?_ :: .is ?_ :: .is ?_ :: .is ?_ :: .is ?_ :: .is ?_ :: .is ?_ :: .is ?_ :: .is ?_ :: .is ?_ :: .is ?_ :: .is ?_ :: .is ?_ :: .is ?_ :: .is ?_ :: .is ?_ :: .is ?_ :: .is ?_ :: .is ?_ :: .is ?_ :: []) rfl ?stzaa ?obzaa
        case stzaa => simp [Spec.ok]
        case obzaa =>
        intro env V hG
        obtain ⟨hc, hf⟩ := bcell hG
        iterate 22 (refine obls_is ?_ ?_; unfold doesAt; go_simp; (try go_bits); (first | (refine ⟨brefl _, ?_⟩; rfl) | rfl); intro K hK; go_simp; refine hK _ ?_; clear hK K)
        refine obls_is ?_ ?_
        · unfold doesAt
          go_simp
          refine (to_any (if wd < r.lo then r.lo - wd else 0) (if r.hi + q < 100 then r.hi + q else 100) V).mono ?_
          rintro e w1 ⟨rfl, rfl⟩
          (refine ⟨?_, balloc (brefl _) _⟩; rfl)
        intro K hK
        go_simp
        refine hK _ ?_
        clear hK K
        (refine obls_is ?_ ?_; unfold doesAt; go_simp; (try go_bits); (first | (refine ⟨brefl _, ?_⟩; rfl) | rfl); intro K hK; go_simp; refine hK _ ?_; clear hK K)
        refine obls_last (fun _ => ?_)
        rw [Hzl.out, Hzh.out]
        obtain ⟨z, hz⟩ : ∃ x, LA (rs.set i zz) Ln 101 = x := ⟨_, rfl⟩
        have Hz := Lib.hid hz
        have Hy2' := Hy2.out
        rw [hz] at Hy2'
        have y0 := (hc gz (i * 2) hrb).trans g0
        have y1 := (hc gz (i * 2 + 1) hrb).trans g1
        have hzb2 := Hzb.out.later hG
        have y2 := hzb2.frozen (i * 2)
        have y3 := hzb2.frozen (i * 2 + 1)
        have y4 := hzb2.lt
        have HZ1 := HZ.out.later hG
        have hsz := sl_set zz HZ1.sl hzb2 hil
        have hgne : gz ≠ g := hzb2.apart HZ1.b0 (by decide)
        have hbf := Lib.hid (bset (bset (Below.later hbb.out hG) (p := ⟨gz, i * 2, none⟩) Hgz.out (.int .i64 zz.lo)) (p := ⟨gz, i * 2 + 1, none⟩) Hgz.out (.int .i64 zz.hi))
        have HZF := Lib.hid (show LW w ((V.setCell ⟨gz, i * 2, none⟩ (.int .i64 zz.lo)).setCell ⟨gz, i * 2 + 1, none⟩ (.int .i64 zz.hi)) g (Ln : Int) (some ⟨gz, 0, none⟩) n c' (rs.set i zz) from ⟨Below.later HK6.out.bel hbf.out, (HZ1.b0.other (p := ⟨gz, i * 2, none⟩) hgne _).other (p := ⟨gz, i * 2 + 1, none⟩) hgne _, hsz⟩)
        clear hz hc hf hG g0 g1 hzb2 HZ1 hsz hgne d0 d1 d2 HZ hbb Hzb Hgz hrb
        unfold doesAt
        go_simp
        obtain ⟨wx, hwx⟩ : ∃ x, (V.setCell ⟨gz, i * 2, none⟩ (.int .i64 zz.lo)).setCell ⟨gz, i * 2 + 1, none⟩ (.int .i64 zz.hi) = x := ⟨_, rfl⟩
        rw [hwx] at HZF hbf ⊢
        clear hwx y0 y1 y2 y3 y4
        have HK7 := Lib.hid (HK6.out.later (hbf.out))
        clear HK6 c0 c1 c2
        obtain ⟨c0, c1, c2⟩ := HK7.out.cells
        clear hbf
        have HZ7 := HZF
        clear HZF
        obtain ⟨e0, e1, e2⟩ := HZ7.out.cells
        go_wp2_with fail
        refine (fewestL_any Ln (some ⟨gz, 0, none⟩) n c' (rs.set i zz) _ HZ7.out.sl (yard_of (by omega) Hyz.out)).mono ?_
        rintro e w8 ⟨gf, hf, rfl, hb, _, _, _⟩
        have HK8 := Lib.hid (HK7.out.later hb)
        have HZ8 := Lib.hid (HZ7.out.later hb)
        clear hb HK7 HZ7 c0 c1 c2 e0 e1 e2
        obtain ⟨c0, c1, c2⟩ := HK8.out.cells
        obtain ⟨e0, e1, e2⟩ := HZ8.out.cells
        rw [Hz.out]
        go_wp2_with fail
        refine (works_any _).mono ?_
        rintro e we ⟨rfl, hbe⟩
        have HBE := Lib.hid (Below.later HK8.out.bel hbe)
        clear hbe
        go_wp2
        go_ret
        exact ⟨rfl, HBE.out⟩
    · have hl1 : ¬ ((Ln : Int) < 10) := by omega
      by_cases hn0 : n = 0
      · have hv0 : v = 0 := Hv0.out hn0
        have hnn : (n : Int) = 0 := by omega
        subst hn0
        subst hv0
        go_wp2_with fail
        refine (works_any _).mono ?_
        rintro e we ⟨rfl, hbe⟩
        have HBE := Lib.hid (Below.later HK5.out.bel hbe)
        clear hbe
        go_wp2
        go_ret
        exact ⟨rfl, HBE.out⟩
      · have hnn : ¬ ((n : Int) = 0) := by omega
        obtain ⟨i, hi⟩ : ∃ i : Nat, wh.tmod (n : Int) = (i : Int) := ⟨(wh.tmod (n : Int)).toNat, by
          rw [Int.tmod_eq_emod_of_nonneg hwh.1]
          have := Int.emod_nonneg wh (b := (n : Int)) (by omega)
          omega⟩
        have hil : i < n := by
          have h1 := Int.emod_lt_of_pos wh (b := (n : Int)) (by omega)
          rw [Int.tmod_eq_emod_of_nonneg hwh.1] at hi
          omega
        have k1 : (i : Int) < (n : Int) := by omega
        have k2 : (0 : Int) ≤ (i : Int) := by omega
        have k3 : IntKind.i64.wrap wh = wh := by rw [IntKind.wrap_i64]; omega
        have k4 : IntKind.i64.wrap wd = wd := by rw [IntKind.wrap_i64]; omega
        have k5 : IntKind.i64.wrap (i : Int) = (i : Int) := by rw [IntKind.wrap_i64]; omega
        go_wp2_with fail
        refine dag 8 (by kernel_rfl) (by kernel_rfl) (.is ?_ :: .is ?_ :: .is ?_ :: .is ?_ :: .is ?_ :: .like (OwnRs w6.heap.size rs) :: .like (OwnY w6.heap.size (Ln : Int) rs) :: .like (NewY w6.heap.size) :: []) rfl ?staab ?obaab
        case staab => repeat (first | exact stab_nil | refine stab_is ?_ | refine stab_like (OwnRs.stab _) ?_ | refine stab_like (OwnY.stab _ _) ?_ | refine stab_like NewY.stab ?_)
        case obaab =>
        intro env V hG
        obtain ⟨hc, hf⟩ := bcell hG
        have HG := Lib.hid hG
        iterate 2 (refine obls_is ?_ ?_; unfold doesAt; go_simp; (try go_bits); (first | (refine ⟨brefl _, ?_⟩; rfl) | rfl); intro K hK; go_simp; refine hK _ ?_; clear hK K)
        refine obls_is ?_ ?_
        · unfold doesAt
          go_simp
          refine (ranges_any none 0 0 V).mono ?_
          rintro e w1 ⟨rfl, hb1⟩
          (refine ⟨?_, hb1⟩; rfl)
        intro K hK
        go_simp
        refine hK _ ?_
        clear hK K
        iterate 2 (refine obls_is ?_ ?_; unfold doesAt; go_simp; (try go_bits); (first | (refine ⟨brefl _, ?_⟩; rfl) | rfl); intro K hK; go_simp; refine hK _ ?_; clear hK K)
        refine obls_like (fun _ => ?_) ?_
        · refine app_of_run rfl (.tmp 113) (.tmp 115) 22 rfl rfl rfl ?_
          obtain ⟨v', W', h1, h2, h3⟩ := run_app_rs (W := V) (base := w6.heap.size) (v := .slice none 0 0) (xs := []) 22 (World.ownsRow_nil _ _ _ _) (HK5.out.sl.later HG.out) (by simp; omega) HG.out.size
          exact ⟨v', W', h1, below_none h2, by simpa using h3⟩
        intro K hK
        go_simp
        refine hK _ ?_
        clear hK K
        refine obls_like (fun hl => ?_) ?_
        · have h8 : OwnRs w6.heap.size rs (env 5) V := hl ⟨5, .data⟩ (by simp) rfl
          have h8' := h8
          unfold OwnRs at h8'
          rw [Hnl.out] at h8'
          obtain ⟨G8, k8, he8, _⟩ := own_slG (k := 2) (enc := encR) (fun _ => rfl) h8' Hnl.out
          rw [he8] at h8
          unfold doesAt
          simp only [he8]
          go_simp
          exact ⟨brefl V, _, rfl, h8⟩
        intro K hK
        go_simp
        refine hK _ ?_
        clear hK K
        refine obls_like (fun _ => ?_) ?_
        · unfold doesAt
          go_simp
          exact ⟨balloc (brefl V) _, V.heap.size, rfl, HG.out.size, Blk.new V _ _⟩
        intro K hK
        go_simp
        refine hK _ ?_
        clear hK K
        refine obls_last (fun hok => ?_)
        have h9 : OwnY w6.heap.size (Ln : Int) rs (env 6) V := hok 6 _ rfl
        have h10 : NewY w6.heap.size (env 7) V := hok 7 _ rfl
        obtain ⟨u, he9, h9⟩ := h9
        obtain ⟨g, he10, hg1, hg2⟩ := h10
        have ho := made_own (L := (Ln : Int)) hg2 h9
        obtain ⟨A', c', rfl, hX⟩ := made_lw (w := w) (L := (Ln : Int)) (Below.later HK5.out.bel HG.out) HK5.out.bel.size hg1 hg2 h9
        rw [Hnl.out] at hX he9 ho
        obtain ⟨gz, cs, rfl, hgz, hzb⟩ := own_blk ho (by rw [Hnl.out]; omega)
        have x0 := hg2.cell 0
        have x1 := hg2.cell 1
        have x2 := hg2.frozen 0
        have x3 := hg2.frozen 1
        have x4 := hg2.lt
        have hbb := Lib.hid (bset (bset HG.out (p := ⟨g, 0, none⟩) hg1 (.int .i64 (Ln : Int))) (p := ⟨g, 1, none⟩) hg1 (.slice (some ⟨gz, 0, none⟩) n c'))
        have HZ := Lib.hid hX
        have Hzb := Lib.hid hzb
        have Hgz := Lib.hid hgz
        rw [he9, he10]
        clear hok h9 hg1 hg2 hG hX hc hf ho hzb hgz
        unfold doesAt
        go_simp
        obtain ⟨wy, hwy⟩ : ∃ x, (V.setCell ⟨g, 0, none⟩ (.int .i64 (Ln : Int))).setCell ⟨g, 1, none⟩ (.slice (some ⟨gz, 0, none⟩) n c') = x := ⟨_, rfl⟩
        rw [hwy] at HZ hbb Hzb ⊢
        clear hwy x0 x1 x2 x3 x4 HG he9 he10
        clear V
        obtain ⟨d0, d1, d2⟩ := HZ.out.cells
        obtain ⟨_, _, r, hA', hrb, hrx, g0, g1⟩ := HZ.out.sl.ltR hil
        cases hA'
        rw [Nat.zero_add] at g0 g1
        have hrr := Hr.out.2 r (List.mem_of_getElem? hrx)
        have hwr := wider_ok hwd hrr
        have hy2 := HF4.out i r (widerR wd r) (by
          refine ⟨by rw [List.length_set]; exact Hr.out.1, fun x hx => ?_⟩
          rcases List.mem_or_eq_of_mem_set hx with h | h
          · exact Hr.out.2 x h
          · rw [h]; exact hwr.1) hrx hwr.2.1 hwr.2.2
        have hyz : RsOk (rs.set i (widerR wd r)) := by
          refine ⟨by rw [List.length_set]; exact Hr.out.1, fun x hx => ?_⟩
          rcases List.mem_or_eq_of_mem_set hx with h | h
          · exact Hr.out.2 x h
          · rw [h]; exact hwr.1
        obtain ⟨q, hq⟩ : ∃ q, wd.tdiv 2 = q := ⟨_, rfl⟩
        have hqr : 0 ≤ q ∧ q ≤ 200 := by rw [← hq, Int.tdiv_eq_ediv_of_nonneg hwd.1]; omega
        have j1 : IntKind.i64.wrap (r.lo - wd) = r.lo - wd := by rw [IntKind.wrap_i64]; omega
        have j2 : IntKind.i64.wrap q = q := by rw [IntKind.wrap_i64]; omega
        have j3 : IntKind.i64.wrap (r.hi + q) = r.hi + q := by rw [IntKind.wrap_i64]; omega
        have Hyz := Lib.hid hyz
        have Hy2 := Lib.hid hy2
        obtain ⟨zz, hzz⟩ : ∃ z, widerR wd r = z := ⟨_, rfl⟩
        have hzl : (if wd < r.lo then r.lo - wd else 0) = zz.lo := by rw [← hzz]; unfold widerR; simp only; split <;> omega
        have hzh : (if r.hi + q < 100 then r.hi + q else 100) = zz.hi := by rw [← hzz]; unfold widerR; rw [hq]; simp only; split <;> omega
        have Hzl := Lib.hid hzl
        have Hzh := Lib.hid hzh
        rw [hzz] at Hyz Hy2
        clear hzz hzl hzh hrx hrr hwr hy2 hyz hqr
        go_wp2_with fail
        refine dag 24 (by kernel_rfl) (by kernel_rfl) (.is ?_ :: .is ?_ :: .is ?_ :: .is ?_ :: .is ?_ :: .is ?_ :: .is ?_ :: .is ?_ :: .is ?_ :: .is ?_ :: .is ?_ :: .is ?_ :: .is ?_ :: .is ?_ :: .is ?_ :: .is ?_ :: .is ?_ :: .is ?_ :: .is ?_ :: .is ?_ :: .is ?_ :: .is ?_ :: .is ?_ :: .is ?_ :: []) rfl ?stzab ?obzab
        case stzab => simp [Spec.ok]
        case obzab =>
        intro env V hG
        obtain ⟨hc, hf⟩ := bcell hG
        iterate 22 (refine obls_is ?_ ?_; unfold doesAt; go_simp; (try go_bits); (first | (refine ⟨brefl _, ?_⟩; rfl) | rfl); intro K hK; go_simp; refine hK _ ?_; clear hK K)
        refine obls_is ?_ ?_
        · unfold doesAt
          go_simp
          refine (to_any (if wd < r.lo then r.lo - wd else 0) (if r.hi + q < 100 then r.hi + q else 100) V).mono ?_
          rintro e w1 ⟨rfl, rfl⟩
          (refine ⟨?_, balloc (brefl _) _⟩; rfl)
        intro K hK
        go_simp
        refine hK _ ?_
        clear hK K
        (refine obls_is ?_ ?_; unfold doesAt; go_simp; (try go_bits); (first | (refine ⟨brefl _, ?_⟩; rfl) | rfl); intro K hK; go_simp; refine hK _ ?_; clear hK K)
        refine obls_last (fun _ => ?_)
        rw [Hzl.out, Hzh.out]
        obtain ⟨z, hz⟩ : ∃ x, LA (rs.set i zz) Ln 101 = x := ⟨_, rfl⟩
        have Hz := Lib.hid hz
        have Hy2' := Hy2.out
        rw [hz] at Hy2'
        have y0 := (hc gz (i * 2) hrb).trans g0
        have y1 := (hc gz (i * 2 + 1) hrb).trans g1
        have hzb2 := Hzb.out.later hG
        have y2 := hzb2.frozen (i * 2)
        have y3 := hzb2.frozen (i * 2 + 1)
        have y4 := hzb2.lt
        have HZ1 := HZ.out.later hG
        have hsz := sl_set zz HZ1.sl hzb2 hil
        have hgne : gz ≠ g := hzb2.apart HZ1.b0 (by decide)
        have hbf := Lib.hid (bset (bset (Below.later hbb.out hG) (p := ⟨gz, i * 2, none⟩) Hgz.out (.int .i64 zz.lo)) (p := ⟨gz, i * 2 + 1, none⟩) Hgz.out (.int .i64 zz.hi))
        have HZF := Lib.hid (show LW w ((V.setCell ⟨gz, i * 2, none⟩ (.int .i64 zz.lo)).setCell ⟨gz, i * 2 + 1, none⟩ (.int .i64 zz.hi)) g (Ln : Int) (some ⟨gz, 0, none⟩) n c' (rs.set i zz) from ⟨Below.later HK5.out.bel hbf.out, (HZ1.b0.other (p := ⟨gz, i * 2, none⟩) hgne _).other (p := ⟨gz, i * 2 + 1, none⟩) hgne _, hsz⟩)
        clear hz hc hf hG g0 g1 hzb2 HZ1 hsz hgne d0 d1 d2 HZ hbb Hzb Hgz hrb
        unfold doesAt
        go_simp
        obtain ⟨wx, hwx⟩ : ∃ x, (V.setCell ⟨gz, i * 2, none⟩ (.int .i64 zz.lo)).setCell ⟨gz, i * 2 + 1, none⟩ (.int .i64 zz.hi) = x := ⟨_, rfl⟩
        rw [hwx] at HZF hbf ⊢
        clear hwx y0 y1 y2 y3 y4
        have HK6 := Lib.hid (HK5.out.later (hbf.out))
        clear HK5 c0 c1 c2
        obtain ⟨c0, c1, c2⟩ := HK6.out.cells
        clear hbf
        have HZ6 := HZF
        clear HZF
        obtain ⟨e0, e1, e2⟩ := HZ6.out.cells
        go_wp2_with fail
        refine (fewestL_any Ln (some ⟨gz, 0, none⟩) n c' (rs.set i zz) _ HZ6.out.sl (yard_of (by omega) Hyz.out)).mono ?_
        rintro e w9 ⟨gf, hf, rfl, hb, _, _, _⟩
        have HK7 := Lib.hid (HK6.out.later hb)
        have HZ7 := Lib.hid (HZ6.out.later hb)
        clear hb HK6 HZ6 c0 c1 c2 e0 e1 e2
        obtain ⟨c0, c1, c2⟩ := HK7.out.cells
        obtain ⟨e0, e1, e2⟩ := HZ7.out.cells
        rw [Hz.out]
        go_wp2_with fail
        refine (works_any _).mono ?_
        rintro e we ⟨rfl, hbe⟩
        have HBE := Lib.hid (Below.later HK7.out.bel hbe)
        clear hbe
        go_wp2
        go_ret
        exact ⟨rfl, HBE.out⟩
  · have Hfx := Lib.hid (fun W (h : Sl 2 encR W W.heap.size A' (n + 1) c' (rs ++ [mr])) => fine_bad (Ln : Int) A' (n + 1) c' (rs ++ [mr]) W h hyx)
    clear hyx
    go_wp2_with fail
    refine (Hfx.out _ HX3.out.sl).mono ?_
    rintro e w10 ⟨rfl, hb⟩
    have HK4 := Lib.hid (HK3.out.later hb)
    have HX4 := Lib.hid (HX3.out.later hb)
    clear hb HK3 HX3 c0 c1 c2 d0 d1 d2
    obtain ⟨c0, c1, c2⟩ := HK4.out.cells
    obtain ⟨d0, d1, d2⟩ := HX4.out.cells
    clear HX4 d0 d1 d2
    by_cases hL10 : Ln < 10
    · have hl1 : (Ln : Int) < 10 := by omega
      have hl2 : IntKind.i64.wrap ((Ln : Int) + 1) = (Ln : Int) + 1 := by rw [IntKind.wrap_i64]; omega
      go_wp2_with fail
      refine (HF1.out hL10 _ HK4.out.sl).mono ?_
      rintro e w11 ⟨ga, ha, rfl, hb, _, _, _⟩
      have HK5 := Lib.hid (HK4.out.later hb)
      clear hb HK4 c0 c1 c2
      obtain ⟨c0, c1, c2⟩ := HK5.out.cells
      have hle := HF2.out hL10
      obtain ⟨m1, hm1⟩ : ∃ m, LA rs (Ln + 1) 101 = m := ⟨_, rfl⟩
      rw [hm1] at hle ⊢
      have hle2 : ¬ (v < m1) := by omega
      clear hm1
      by_cases hn0 : n = 0
      · have hv0 : v = 0 := Hv0.out hn0
        have hnn : (n : Int) = 0 := by omega
        subst hn0
        subst hv0
        go_wp2_with fail
        refine (works_any _).mono ?_
        rintro e we ⟨rfl, hbe⟩
        have HBE := Lib.hid (Below.later HK5.out.bel hbe)
        clear hbe
        go_wp2
        go_ret
        exact ⟨rfl, HBE.out⟩
      · have hnn : ¬ ((n : Int) = 0) := by omega
        obtain ⟨i, hi⟩ : ∃ i : Nat, wh.tmod (n : Int) = (i : Int) := ⟨(wh.tmod (n : Int)).toNat, by
          rw [Int.tmod_eq_emod_of_nonneg hwh.1]
          have := Int.emod_nonneg wh (b := (n : Int)) (by omega)
          omega⟩
        have hil : i < n := by
          have h1 := Int.emod_lt_of_pos wh (b := (n : Int)) (by omega)
          rw [Int.tmod_eq_emod_of_nonneg hwh.1] at hi
          omega
        have k1 : (i : Int) < (n : Int) := by omega
        have k2 : (0 : Int) ≤ (i : Int) := by omega
        have k3 : IntKind.i64.wrap wh = wh := by rw [IntKind.wrap_i64]; omega
        have k4 : IntKind.i64.wrap wd = wd := by rw [IntKind.wrap_i64]; omega
        have k5 : IntKind.i64.wrap (i : Int) = (i : Int) := by rw [IntKind.wrap_i64]; omega
        go_wp2_with fail
        refine dag 8 (by kernel_rfl) (by kernel_rfl) (.is ?_ :: .is ?_ :: .is ?_ :: .is ?_ :: .is ?_ :: .like (OwnRs w11.heap.size rs) :: .like (OwnY w11.heap.size (Ln : Int) rs) :: .like (NewY w11.heap.size) :: []) rfl ?staba ?obaba
        case staba => repeat (first | exact stab_nil | refine stab_is ?_ | refine stab_like (OwnRs.stab _) ?_ | refine stab_like (OwnY.stab _ _) ?_ | refine stab_like NewY.stab ?_)
        case obaba =>
        intro env V hG
        obtain ⟨hc, hf⟩ := bcell hG
        have HG := Lib.hid hG
        iterate 2 (refine obls_is ?_ ?_; unfold doesAt; go_simp; (try go_bits); (first | (refine ⟨brefl _, ?_⟩; rfl) | rfl); intro K hK; go_simp; refine hK _ ?_; clear hK K)
        refine obls_is ?_ ?_
        · unfold doesAt
          go_simp
          refine (ranges_any none 0 0 V).mono ?_
          rintro e w1 ⟨rfl, hb1⟩
          (refine ⟨?_, hb1⟩; rfl)
        intro K hK
        go_simp
        refine hK _ ?_
        clear hK K
        iterate 2 (refine obls_is ?_ ?_; unfold doesAt; go_simp; (try go_bits); (first | (refine ⟨brefl _, ?_⟩; rfl) | rfl); intro K hK; go_simp; refine hK _ ?_; clear hK K)
        refine obls_like (fun _ => ?_) ?_
        · refine app_of_run rfl (.tmp 113) (.tmp 115) 22 rfl rfl rfl ?_
          obtain ⟨v', W', h1, h2, h3⟩ := run_app_rs (W := V) (base := w11.heap.size) (v := .slice none 0 0) (xs := []) 22 (World.ownsRow_nil _ _ _ _) (HK5.out.sl.later HG.out) (by simp; omega) HG.out.size
          exact ⟨v', W', h1, below_none h2, by simpa using h3⟩
        intro K hK
        go_simp
        refine hK _ ?_
        clear hK K
        refine obls_like (fun hl => ?_) ?_
        · have h8 : OwnRs w11.heap.size rs (env 5) V := hl ⟨5, .data⟩ (by simp) rfl
          have h8' := h8
          unfold OwnRs at h8'
          rw [Hnl.out] at h8'
          obtain ⟨G8, k8, he8, _⟩ := own_slG (k := 2) (enc := encR) (fun _ => rfl) h8' Hnl.out
          rw [he8] at h8
          unfold doesAt
          simp only [he8]
          go_simp
          exact ⟨brefl V, _, rfl, h8⟩
        intro K hK
        go_simp
        refine hK _ ?_
        clear hK K
        refine obls_like (fun _ => ?_) ?_
        · unfold doesAt
          go_simp
          exact ⟨balloc (brefl V) _, V.heap.size, rfl, HG.out.size, Blk.new V _ _⟩
        intro K hK
        go_simp
        refine hK _ ?_
        clear hK K
        refine obls_last (fun hok => ?_)
        have h9 : OwnY w11.heap.size (Ln : Int) rs (env 6) V := hok 6 _ rfl
        have h10 : NewY w11.heap.size (env 7) V := hok 7 _ rfl
        obtain ⟨u, he9, h9⟩ := h9
        obtain ⟨g, he10, hg1, hg2⟩ := h10
        have ho := made_own (L := (Ln : Int)) hg2 h9
        obtain ⟨A', c', rfl, hX⟩ := made_lw (w := w) (L := (Ln : Int)) (Below.later HK5.out.bel HG.out) HK5.out.bel.size hg1 hg2 h9
        rw [Hnl.out] at hX he9 ho
        obtain ⟨gz, cs, rfl, hgz, hzb⟩ := own_blk ho (by rw [Hnl.out]; omega)
        have x0 := hg2.cell 0
        have x1 := hg2.cell 1
        have x2 := hg2.frozen 0
        have x3 := hg2.frozen 1
        have x4 := hg2.lt
        have hbb := Lib.hid (bset (bset HG.out (p := ⟨g, 0, none⟩) hg1 (.int .i64 (Ln : Int))) (p := ⟨g, 1, none⟩) hg1 (.slice (some ⟨gz, 0, none⟩) n c'))
        have HZ := Lib.hid hX
        have Hzb := Lib.hid hzb
        have Hgz := Lib.hid hgz
        rw [he9, he10]
        clear hok h9 hg1 hg2 hG hX hc hf ho hzb hgz
        unfold doesAt
        go_simp
        obtain ⟨wy, hwy⟩ : ∃ x, (V.setCell ⟨g, 0, none⟩ (.int .i64 (Ln : Int))).setCell ⟨g, 1, none⟩ (.slice (some ⟨gz, 0, none⟩) n c') = x := ⟨_, rfl⟩
        rw [hwy] at HZ hbb Hzb ⊢
        clear hwy x0 x1 x2 x3 x4 HG he9 he10
        clear V
        obtain ⟨d0, d1, d2⟩ := HZ.out.cells
        obtain ⟨_, _, r, hA', hrb, hrx, g0, g1⟩ := HZ.out.sl.ltR hil
        cases hA'
        rw [Nat.zero_add] at g0 g1
        have hrr := Hr.out.2 r (List.mem_of_getElem? hrx)
        have hwr := wider_ok hwd hrr
        have hy2 := HF4.out i r (widerR wd r) (by
          refine ⟨by rw [List.length_set]; exact Hr.out.1, fun x hx => ?_⟩
          rcases List.mem_or_eq_of_mem_set hx with h | h
          · exact Hr.out.2 x h
          · rw [h]; exact hwr.1) hrx hwr.2.1 hwr.2.2
        have hyz : RsOk (rs.set i (widerR wd r)) := by
          refine ⟨by rw [List.length_set]; exact Hr.out.1, fun x hx => ?_⟩
          rcases List.mem_or_eq_of_mem_set hx with h | h
          · exact Hr.out.2 x h
          · rw [h]; exact hwr.1
        obtain ⟨q, hq⟩ : ∃ q, wd.tdiv 2 = q := ⟨_, rfl⟩
        have hqr : 0 ≤ q ∧ q ≤ 200 := by rw [← hq, Int.tdiv_eq_ediv_of_nonneg hwd.1]; omega
        have j1 : IntKind.i64.wrap (r.lo - wd) = r.lo - wd := by rw [IntKind.wrap_i64]; omega
        have j2 : IntKind.i64.wrap q = q := by rw [IntKind.wrap_i64]; omega
        have j3 : IntKind.i64.wrap (r.hi + q) = r.hi + q := by rw [IntKind.wrap_i64]; omega
        have Hyz := Lib.hid hyz
        have Hy2 := Lib.hid hy2
        obtain ⟨zz, hzz⟩ : ∃ z, widerR wd r = z := ⟨_, rfl⟩
        have hzl : (if wd < r.lo then r.lo - wd else 0) = zz.lo := by rw [← hzz]; unfold widerR; simp only; split <;> omega
        have hzh : (if r.hi + q < 100 then r.hi + q else 100) = zz.hi := by rw [← hzz]; unfold widerR; rw [hq]; simp only; split <;> omega
        have Hzl := Lib.hid hzl
        have Hzh := Lib.hid hzh
        rw [hzz] at Hyz Hy2
        clear hzz hzl hzh hrx hrr hwr hy2 hyz hqr
        go_wp2_with fail
        refine dag 24 (by kernel_rfl) (by kernel_rfl) (.is ?_ :: .is ?_ :: .is ?_ :: .is ?_ :: .is ?_ :: .is ?_ :: .is ?_ :: .is ?_ :: .is ?_ :: .is ?_ :: .is ?_ :: .is ?_ :: .is ?_ :: .is ?_ :: .is ?_ :: .is ?_ :: .is ?_ :: .is ?_ :: .is ?_ :: .is ?_ :: .is ?_ :: .is ?_ :: .is ?_ :: .is ?_ :: []) rfl ?stzba ?obzba
        case stzba => simp [Spec.ok]
        case obzba =>
        intro env V hG
        obtain ⟨hc, hf⟩ := bcell hG
        iterate 22 (refine obls_is ?_ ?_; unfold doesAt; go_simp; (try go_bits); (first | (refine ⟨brefl _, ?_⟩; rfl) | rfl); intro K hK; go_simp; refine hK _ ?_; clear hK K)
        refine obls_is ?_ ?_
        · unfold doesAt
          go_simp
          refine (to_any (if wd < r.lo then r.lo - wd else 0) (if r.hi + q < 100 then r.hi + q else 100) V).mono ?_
          rintro e w1 ⟨rfl, rfl⟩
          (refine ⟨?_, balloc (brefl _) _⟩; rfl)
        intro K hK
        go_simp
        refine hK _ ?_
        clear hK K
        (refine obls_is ?_ ?_; unfold doesAt; go_simp; (try go_bits); (first | (refine ⟨brefl _, ?_⟩; rfl) | rfl); intro K hK; go_simp; refine hK _ ?_; clear hK K)
        refine obls_last (fun _ => ?_)
        rw [Hzl.out, Hzh.out]
        obtain ⟨z, hz⟩ : ∃ x, LA (rs.set i zz) Ln 101 = x := ⟨_, rfl⟩
        have Hz := Lib.hid hz
        have Hy2' := Hy2.out
        rw [hz] at Hy2'
        have y0 := (hc gz (i * 2) hrb).trans g0
        have y1 := (hc gz (i * 2 + 1) hrb).trans g1
        have hzb2 := Hzb.out.later hG
        have y2 := hzb2.frozen (i * 2)
        have y3 := hzb2.frozen (i * 2 + 1)
        have y4 := hzb2.lt
        have HZ1 := HZ.out.later hG
        have hsz := sl_set zz HZ1.sl hzb2 hil
        have hgne : gz ≠ g := hzb2.apart HZ1.b0 (by decide)
        have hbf := Lib.hid (bset (bset (Below.later hbb.out hG) (p := ⟨gz, i * 2, none⟩) Hgz.out (.int .i64 zz.lo)) (p := ⟨gz, i * 2 + 1, none⟩) Hgz.out (.int .i64 zz.hi))
        have HZF := Lib.hid (show LW w ((V.setCell ⟨gz, i * 2, none⟩ (.int .i64 zz.lo)).setCell ⟨gz, i * 2 + 1, none⟩ (.int .i64 zz.hi)) g (Ln : Int) (some ⟨gz, 0, none⟩) n c' (rs.set i zz) from ⟨Below.later HK5.out.bel hbf.out, (HZ1.b0.other (p := ⟨gz, i * 2, none⟩) hgne _).other (p := ⟨gz, i * 2 + 1, none⟩) hgne _, hsz⟩)
        clear hz hc hf hG g0 g1 hzb2 HZ1 hsz hgne d0 d1 d2 HZ hbb Hzb Hgz hrb
        unfold doesAt
        go_simp
        obtain ⟨wx, hwx⟩ : ∃ x, (V.setCell ⟨gz, i * 2, none⟩ (.int .i64 zz.lo)).setCell ⟨gz, i * 2 + 1, none⟩ (.int .i64 zz.hi) = x := ⟨_, rfl⟩
        rw [hwx] at HZF hbf ⊢
        clear hwx y0 y1 y2 y3 y4
        have HK6 := Lib.hid (HK5.out.later (hbf.out))
        clear HK5 c0 c1 c2
        obtain ⟨c0, c1, c2⟩ := HK6.out.cells
        clear hbf
        have HZ6 := HZF
        clear HZF
        obtain ⟨e0, e1, e2⟩ := HZ6.out.cells
        go_wp2_with fail
        refine (fewestL_any Ln (some ⟨gz, 0, none⟩) n c' (rs.set i zz) _ HZ6.out.sl (yard_of (by omega) Hyz.out)).mono ?_
        rintro e w12 ⟨gf, hf, rfl, hb, _, _, _⟩
        have HK7 := Lib.hid (HK6.out.later hb)
        have HZ7 := Lib.hid (HZ6.out.later hb)
        clear hb HK6 HZ6 c0 c1 c2 e0 e1 e2
        obtain ⟨c0, c1, c2⟩ := HK7.out.cells
        obtain ⟨e0, e1, e2⟩ := HZ7.out.cells
        rw [Hz.out]
        go_wp2_with fail
        refine (works_any _).mono ?_
        rintro e we ⟨rfl, hbe⟩
        have HBE := Lib.hid (Below.later HK7.out.bel hbe)
        clear hbe
        go_wp2
        go_ret
        exact ⟨rfl, HBE.out⟩
    · have hl1 : ¬ ((Ln : Int) < 10) := by omega
      by_cases hn0 : n = 0
      · have hv0 : v = 0 := Hv0.out hn0
        have hnn : (n : Int) = 0 := by omega
        subst hn0
        subst hv0
        go_wp2_with fail
        refine (works_any _).mono ?_
        rintro e we ⟨rfl, hbe⟩
        have HBE := Lib.hid (Below.later HK4.out.bel hbe)
        clear hbe
        go_wp2
        go_ret
        exact ⟨rfl, HBE.out⟩
      · have hnn : ¬ ((n : Int) = 0) := by omega
        obtain ⟨i, hi⟩ : ∃ i : Nat, wh.tmod (n : Int) = (i : Int) := ⟨(wh.tmod (n : Int)).toNat, by
          rw [Int.tmod_eq_emod_of_nonneg hwh.1]
          have := Int.emod_nonneg wh (b := (n : Int)) (by omega)
          omega⟩
        have hil : i < n := by
          have h1 := Int.emod_lt_of_pos wh (b := (n : Int)) (by omega)
          rw [Int.tmod_eq_emod_of_nonneg hwh.1] at hi
          omega
        have k1 : (i : Int) < (n : Int) := by omega
        have k2 : (0 : Int) ≤ (i : Int) := by omega
        have k3 : IntKind.i64.wrap wh = wh := by rw [IntKind.wrap_i64]; omega
        have k4 : IntKind.i64.wrap wd = wd := by rw [IntKind.wrap_i64]; omega
        have k5 : IntKind.i64.wrap (i : Int) = (i : Int) := by rw [IntKind.wrap_i64]; omega
        go_wp2_with fail
        refine dag 8 (by kernel_rfl) (by kernel_rfl) (.is ?_ :: .is ?_ :: .is ?_ :: .is ?_ :: .is ?_ :: .like (OwnRs w10.heap.size rs) :: .like (OwnY w10.heap.size (Ln : Int) rs) :: .like (NewY w10.heap.size) :: []) rfl ?stabb ?obabb
        case stabb => repeat (first | exact stab_nil | refine stab_is ?_ | refine stab_like (OwnRs.stab _) ?_ | refine stab_like (OwnY.stab _ _) ?_ | refine stab_like NewY.stab ?_)
        case obabb =>
        intro env V hG
        obtain ⟨hc, hf⟩ := bcell hG
        have HG := Lib.hid hG
        iterate 2 (refine obls_is ?_ ?_; unfold doesAt; go_simp; (try go_bits); (first | (refine ⟨brefl _, ?_⟩; rfl) | rfl); intro K hK; go_simp; refine hK _ ?_; clear hK K)
        refine obls_is ?_ ?_
        · unfold doesAt
          go_simp
          refine (ranges_any none 0 0 V).mono ?_
          rintro e w1 ⟨rfl, hb1⟩
          (refine ⟨?_, hb1⟩; rfl)
        intro K hK
        go_simp
        refine hK _ ?_
        clear hK K
        iterate 2 (refine obls_is ?_ ?_; unfold doesAt; go_simp; (try go_bits); (first | (refine ⟨brefl _, ?_⟩; rfl) | rfl); intro K hK; go_simp; refine hK _ ?_; clear hK K)
        refine obls_like (fun _ => ?_) ?_
        · refine app_of_run rfl (.tmp 113) (.tmp 115) 22 rfl rfl rfl ?_
          obtain ⟨v', W', h1, h2, h3⟩ := run_app_rs (W := V) (base := w10.heap.size) (v := .slice none 0 0) (xs := []) 22 (World.ownsRow_nil _ _ _ _) (HK4.out.sl.later HG.out) (by simp; omega) HG.out.size
          exact ⟨v', W', h1, below_none h2, by simpa using h3⟩
        intro K hK
        go_simp
        refine hK _ ?_
        clear hK K
        refine obls_like (fun hl => ?_) ?_
        · have h8 : OwnRs w10.heap.size rs (env 5) V := hl ⟨5, .data⟩ (by simp) rfl
          have h8' := h8
          unfold OwnRs at h8'
          rw [Hnl.out] at h8'
          obtain ⟨G8, k8, he8, _⟩ := own_slG (k := 2) (enc := encR) (fun _ => rfl) h8' Hnl.out
          rw [he8] at h8
          unfold doesAt
          simp only [he8]
          go_simp
          exact ⟨brefl V, _, rfl, h8⟩
        intro K hK
        go_simp
        refine hK _ ?_
        clear hK K
        refine obls_like (fun _ => ?_) ?_
        · unfold doesAt
          go_simp
          exact ⟨balloc (brefl V) _, V.heap.size, rfl, HG.out.size, Blk.new V _ _⟩
        intro K hK
        go_simp
        refine hK _ ?_
        clear hK K
        refine obls_last (fun hok => ?_)
        have h9 : OwnY w10.heap.size (Ln : Int) rs (env 6) V := hok 6 _ rfl
        have h10 : NewY w10.heap.size (env 7) V := hok 7 _ rfl
        obtain ⟨u, he9, h9⟩ := h9
        obtain ⟨g, he10, hg1, hg2⟩ := h10
        have ho := made_own (L := (Ln : Int)) hg2 h9
        obtain ⟨A', c', rfl, hX⟩ := made_lw (w := w) (L := (Ln : Int)) (Below.later HK4.out.bel HG.out) HK4.out.bel.size hg1 hg2 h9
        rw [Hnl.out] at hX he9 ho
        obtain ⟨gz, cs, rfl, hgz, hzb⟩ := own_blk ho (by rw [Hnl.out]; omega)
        have x0 := hg2.cell 0
        have x1 := hg2.cell 1
        have x2 := hg2.frozen 0
        have x3 := hg2.frozen 1
        have x4 := hg2.lt
        have hbb := Lib.hid (bset (bset HG.out (p := ⟨g, 0, none⟩) hg1 (.int .i64 (Ln : Int))) (p := ⟨g, 1, none⟩) hg1 (.slice (some ⟨gz, 0, none⟩) n c'))
        have HZ := Lib.hid hX
        have Hzb := Lib.hid hzb
        have Hgz := Lib.hid hgz
        rw [he9, he10]
        clear hok h9 hg1 hg2 hG hX hc hf ho hzb hgz
        unfold doesAt
        go_simp
        obtain ⟨wy, hwy⟩ : ∃ x, (V.setCell ⟨g, 0, none⟩ (.int .i64 (Ln : Int))).setCell ⟨g, 1, none⟩ (.slice (some ⟨gz, 0, none⟩) n c') = x := ⟨_, rfl⟩
        rw [hwy] at HZ hbb Hzb ⊢
        clear hwy x0 x1 x2 x3 x4 HG he9 he10
        clear V
        obtain ⟨d0, d1, d2⟩ := HZ.out.cells
        obtain ⟨_, _, r, hA', hrb, hrx, g0, g1⟩ := HZ.out.sl.ltR hil
        cases hA'
        rw [Nat.zero_add] at g0 g1
        have hrr := Hr.out.2 r (List.mem_of_getElem? hrx)
        have hwr := wider_ok hwd hrr
        have hy2 := HF4.out i r (widerR wd r) (by
          refine ⟨by rw [List.length_set]; exact Hr.out.1, fun x hx => ?_⟩
          rcases List.mem_or_eq_of_mem_set hx with h | h
          · exact Hr.out.2 x h
          · rw [h]; exact hwr.1) hrx hwr.2.1 hwr.2.2
        have hyz : RsOk (rs.set i (widerR wd r)) := by
          refine ⟨by rw [List.length_set]; exact Hr.out.1, fun x hx => ?_⟩
          rcases List.mem_or_eq_of_mem_set hx with h | h
          · exact Hr.out.2 x h
          · rw [h]; exact hwr.1
        obtain ⟨q, hq⟩ : ∃ q, wd.tdiv 2 = q := ⟨_, rfl⟩
        have hqr : 0 ≤ q ∧ q ≤ 200 := by rw [← hq, Int.tdiv_eq_ediv_of_nonneg hwd.1]; omega
        have j1 : IntKind.i64.wrap (r.lo - wd) = r.lo - wd := by rw [IntKind.wrap_i64]; omega
        have j2 : IntKind.i64.wrap q = q := by rw [IntKind.wrap_i64]; omega
        have j3 : IntKind.i64.wrap (r.hi + q) = r.hi + q := by rw [IntKind.wrap_i64]; omega
        have Hyz := Lib.hid hyz
        have Hy2 := Lib.hid hy2
        obtain ⟨zz, hzz⟩ : ∃ z, widerR wd r = z := ⟨_, rfl⟩
        have hzl : (if wd < r.lo then r.lo - wd else 0) = zz.lo := by rw [← hzz]; unfold widerR; simp only; split <;> omega
        have hzh : (if r.hi + q < 100 then r.hi + q else 100) = zz.hi := by rw [← hzz]; unfold widerR; rw [hq]; simp only; split <;> omega
        have Hzl := Lib.hid hzl
        have Hzh := Lib.hid hzh
        rw [hzz] at Hyz Hy2
        clear hzz hzl hzh hrx hrr hwr hy2 hyz hqr
        go_wp2_with fail
        refine dag 24 (by kernel_rfl) (by kernel_rfl) (.is ?_ :: .is ?_ :: .is ?_ :: .is ?_ :: .is ?_ :: .is ?_ :: .is ?_ :: .is ?_ :: .is ?_ :: .is ?_ :: .is ?_ :: .is ?_ :: .is ?_ :: .is ?_ :: .is ?_ :: .is ?_ :: .is ?_ :: .is ?_ :: .is ?_ :: .is ?_ :: .is ?_ :: .is ?_ :: .is ?_ :: .is ?_ :: []) rfl ?stzbb ?obzbb
        case stzbb => simp [Spec.ok]
        case obzbb =>
        intro env V hG
        obtain ⟨hc, hf⟩ := bcell hG
        iterate 22 (refine obls_is ?_ ?_; unfold doesAt; go_simp; (try go_bits); (first | (refine ⟨brefl _, ?_⟩; rfl) | rfl); intro K hK; go_simp; refine hK _ ?_; clear hK K)
        refine obls_is ?_ ?_
        · unfold doesAt
          go_simp
          refine (to_any (if wd < r.lo then r.lo - wd else 0) (if r.hi + q < 100 then r.hi + q else 100) V).mono ?_
          rintro e w1 ⟨rfl, rfl⟩
          (refine ⟨?_, balloc (brefl _) _⟩; rfl)
        intro K hK
        go_simp
        refine hK _ ?_
        clear hK K
        (refine obls_is ?_ ?_; unfold doesAt; go_simp; (try go_bits); (first | (refine ⟨brefl _, ?_⟩; rfl) | rfl); intro K hK; go_simp; refine hK _ ?_; clear hK K)
        refine obls_last (fun _ => ?_)
        rw [Hzl.out, Hzh.out]
        obtain ⟨z, hz⟩ : ∃ x, LA (rs.set i zz) Ln 101 = x := ⟨_, rfl⟩
        have Hz := Lib.hid hz
        have Hy2' := Hy2.out
        rw [hz] at Hy2'
        have y0 := (hc gz (i * 2) hrb).trans g0
        have y1 := (hc gz (i * 2 + 1) hrb).trans g1
        have hzb2 := Hzb.out.later hG
        have y2 := hzb2.frozen (i * 2)
        have y3 := hzb2.frozen (i * 2 + 1)
        have y4 := hzb2.lt
        have HZ1 := HZ.out.later hG
        have hsz := sl_set zz HZ1.sl hzb2 hil
        have hgne : gz ≠ g := hzb2.apart HZ1.b0 (by decide)
        have hbf := Lib.hid (bset (bset (Below.later hbb.out hG) (p := ⟨gz, i * 2, none⟩) Hgz.out (.int .i64 zz.lo)) (p := ⟨gz, i * 2 + 1, none⟩) Hgz.out (.int .i64 zz.hi))
        have HZF := Lib.hid (show LW w ((V.setCell ⟨gz, i * 2, none⟩ (.int .i64 zz.lo)).setCell ⟨gz, i * 2 + 1, none⟩ (.int .i64 zz.hi)) g (Ln : Int) (some ⟨gz, 0, none⟩) n c' (rs.set i zz) from ⟨Below.later HK4.out.bel hbf.out, (HZ1.b0.other (p := ⟨gz, i * 2, none⟩) hgne _).other (p := ⟨gz, i * 2 + 1, none⟩) hgne _, hsz⟩)
        clear hz hc hf hG g0 g1 hzb2 HZ1 hsz hgne d0 d1 d2 HZ hbb Hzb Hgz hrb
        unfold doesAt
        go_simp
        obtain ⟨wx, hwx⟩ : ∃ x, (V.setCell ⟨gz, i * 2, none⟩ (.int .i64 zz.lo)).setCell ⟨gz, i * 2 + 1, none⟩ (.int .i64 zz.hi) = x := ⟨_, rfl⟩
        rw [hwx] at HZF hbf ⊢
        clear hwx y0 y1 y2 y3 y4
        have HK5 := Lib.hid (HK4.out.later (hbf.out))
        clear HK4 c0 c1 c2
        obtain ⟨c0, c1, c2⟩ := HK5.out.cells
        clear hbf
        have HZ5 := HZF
        clear HZF
        obtain ⟨e0, e1, e2⟩ := HZ5.out.cells
        go_wp2_with fail
        refine (fewestL_any Ln (some ⟨gz, 0, none⟩) n c' (rs.set i zz) _ HZ5.out.sl (yard_of (by omega) Hyz.out)).mono ?_
        rintro e w13 ⟨gf, hf, rfl, hb, _, _, _⟩
        have HK6 := Lib.hid (HK5.out.later hb)
        have HZ6 := Lib.hid (HZ5.out.later hb)
        clear hb HK5 HZ5 c0 c1 c2 e0 e1 e2
        obtain ⟨c0, c1, c2⟩ := HK6.out.cells
        obtain ⟨e0, e1, e2⟩ := HZ6.out.cells
        rw [Hz.out]
        go_wp2_with fail
        refine (works_any _).mono ?_
        rintro e we ⟨rfl, hbe⟩
        have HBE := Lib.hid (Below.later HK6.out.bel hbe)
        clear hbe
        go_wp2
        go_ret
        exact ⟨rfl, HBE.out⟩
end Go.Proofs.Ytbbdlebmagknmaa
