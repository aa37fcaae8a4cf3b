/- The walk of SteamLater. -/
import Derived.Test.YtbbdlebmagknmaaSMade
import Derived.Test.YtbbdlebmagknmaaSPlain3
namespace Go.Proofs.Ytbbdlebmagknmaa
open Go.RowKit Go.Shelf

theorem later_take {rs : List Rg} {d : Int} {i : Nat} {x : Rg} (hx : rs[i]? = some x) : (rs.take i).map (laterR d) ++ [laterR d x] = (rs.take (i + 1)).map (laterR d) := by
  obtain ⟨h1, h2⟩ := List.getElem?_eq_some_iff.1 hx
  rw [List.take_succ_eq_append_getElem h1, h2, List.map_append, List.map_cons, List.map_nil]
/-- While four lists are compared. -/
structure FL (w W : World) (GA GB GC GD : Option Addr) (m da db dc dd : Nat) (es bs cs ds : List Int) : Prop where
  bel : Below w.heap.size w W
  sa : Sl 1 encI W W.heap.size GA m da es
  sb : Sl 1 encI W W.heap.size GB m db bs
  sc : Sl 1 encI W W.heap.size GC m dc cs
  sd : Sl 1 encI W W.heap.size GD m dd ds
theorem FL.later {w W W' : World} {GA GB GC GD : Option Addr} {m da db dc dd : Nat} {es bs cs ds : List Int} (h : FL w W GA GB GC GD m da db dc dd es bs cs ds) (hb : Below W.heap.size W W') : FL w W' GA GB GC GD m da db dc dd es bs cs ds := ⟨Below.later h.bel hb, h.sa.later hb, h.sb.later hb, h.sc.later hb, h.sd.later hb⟩
theorem early_is {L : Nat} {rs : List Rg} (hy : yardE (L : Int) rs = 0) : earlyV (L : Int) rs = earlyOf rs L := by unfold earlyV; rw [if_pos hy, Int.toNat_natCast]; rfl
theorem late_is {L : Nat} {rs : List Rg} (hy : yardE (L : Int) rs = 0) : lateV (L : Int) rs = lateOf rs L := by unfold lateV; rw [if_pos hy, Int.toNat_natCast]; rfl
set_option maxRecDepth 100000 in
set_option maxHeartbeats 4000000 in
theorem later_law (L : Int) (A : Option Addr) (n c : Nat) (rs : List Rg) (d : Int) (w : World) (hs : Sl 2 encR w w.heap.size A n c rs) (hd : 0 ≤ d ∧ d ≤ 255) :
    Calls Try.prog 11 #[.agg #[.int .i64 L, .slice A n c], .int .u8 d] w fun e w' => e = .returned (.bool true) ∧ Below w.heap.size w w' := by
  obtain rfl := hs.len
  obtain ⟨n, hn⟩ : ∃ n, rs.length = n := ⟨_, rfl⟩
  rw [hn] at hs ⊢
  have hB := balloc (brefl w) (.cells #[.int .i64 L, .slice A n c] 24)
  have HK0 := Lib.hid (show LW w (w.alloc (.cells #[.int .i64 L, .slice A n c] 24)) w.heap.size L A n c rs from ⟨hB, Blk.new w _ _, hs.later hB⟩)
  clear hB
  obtain ⟨c0, c1, c2⟩ := HK0.out.cells
  by_cases hy : yardE L rs = 0
  case neg =>
    have Hf := Lib.hid (fun W (h : Sl 2 encR W W.heap.size A n c rs) => fine_bad L A n c rs W h hy)
    clear hs hy
    go_enter Try.func11, Try.ntmps11
    go_wp2_with fail
    refine (Hf.out _ HK0.out.sl).mono ?_
    rintro e w1 ⟨rfl, hb⟩
    have HK1 := Lib.hid (HK0.out.later hb)
    clear hb HK0 c0 c1 c2
    obtain ⟨c0, c1, c2⟩ := HK1.out.cells
    go_wp2_with fail
    refine (works_any _).mono ?_
    rintro e we ⟨rfl, hbe⟩
    have HBE := Lib.hid (Below.later HK1.out.bel hbe)
    clear hbe
    go_wp2
    go_ret
    exact ⟨rfl, HBE.out⟩
  case pos =>
  have Hf := Lib.hid (fun W (h : Sl 2 encR W W.heap.size A n c rs) => fine_ok L A n c rs W h hy)
  obtain ⟨Ln, rfl, hLn, hr⟩ := yard_nat hy
  have Hy := Lib.hid hy
  have Hr := Lib.hid hr
  have Hs := Lib.hid hs
  have hn10 : n ≤ 10 := by rw [← hn]; exact hr.1
  have Hn := Lib.hid hn
  have i0 : IntKind.i64.wrap d = d := by rw [IntKind.wrap_i64]; omega
  clear hs hy hr hn
  go_enter Try.func11, Try.ntmps11
  go_wp2_with fail
  refine (Hf.out _ HK0.out.sl).mono ?_
  rintro e w2 ⟨rfl, hb⟩
  have HK1 := Lib.hid (HK0.out.later hb)
  clear hb HK0 c0 c1 c2
  obtain ⟨c0, c1, c2⟩ := HK1.out.cells
  have HP0 := Lib.hid (show KP w (w2.alloc (.cells #[.int .i64 (Ln : Int), .slice none 0 0] 24)) w2.heap.size (Ln : Int) A n c (Ln : Int) (.slice none 0 0) [] from ⟨⟨balloc HK1.out.bel _, Blk.new _ _ _, World.ownsRow_nil _ _ _ _, HK1.out.bel.size⟩, HK1.out.b0.later (balloc (brefl _) _), HK1.out.b0.lt⟩)
  go_wp2_with fail
  clear c0 c1 c2
  obtain ⟨P, hP⟩ : ∃ P, w2.heap.size = P := ⟨_, rfl⟩
  rw [hP] at HP0 ⊢
  clear hP HK1
  refine loop_n (fun q a W => a.defers = [] ∧ ∃ (i : Nat) (v : Value), i + q = n ∧ KP w W P (Ln : Int) A n c (Ln : Int) v ((rs.take i).map (laterR d)) ∧ Fits (none :: none :: some (.pointer (some ⟨w.heap.size, 0, none⟩)) :: none :: none :: some (.int .i64 d) :: some (.pointer (some ⟨P, 0, none⟩)) :: some (.int .i64 (i : Nat)) :: none :: none :: none :: none :: none :: none :: none :: none :: none :: none :: none :: none :: none :: none :: none :: none :: none :: none :: none :: none :: none :: none :: none :: none :: none :: none :: none :: none :: none :: none :: none :: none :: none :: none :: none :: none :: none :: none :: none :: none :: none :: none :: none :: none :: none :: none :: none :: none :: none :: none :: none :: none :: none :: none :: none :: none :: none :: none :: none :: none :: none :: none :: none :: none :: none :: none :: none :: none :: none :: none :: none :: none :: none :: none :: none :: none :: none :: none :: none :: none :: none :: none :: none :: none :: none :: none :: none :: none :: none :: none :: none :: none :: none :: none :: none :: none :: none :: none :: none :: none :: none :: none :: none :: none :: none :: none :: none :: none :: none :: none :: none :: none :: none :: none :: none :: none :: none :: none :: none :: none :: none :: none :: none :: none :: none :: none :: none :: none :: none :: none :: none :: none :: none :: none :: none :: none :: none :: none :: none :: none :: none :: none :: none :: none :: none :: none :: none :: none :: none :: none :: none :: none :: none :: none :: none :: none :: none :: none :: none :: none :: none :: none :: none :: none :: none :: none :: none :: none :: []) a.tmps.toList) n ?_ ?_
  · refine ⟨rfl, 0, _, by omega, HP0.out, ?_⟩
    repeat (first | exact fits_nil | refine fits_none ?_ | refine fits_some ?_)
  clear HP0 w2
  intro q a W hI K hK
  obtain ⟨hds, i, v, hiq, hKB, hfit⟩ := hI
  obtain ⟨f', hf'⟩ := fits_act hfit
  rw [hds] at hf'
  subst hf'
  clear hfit hds
  simp only [fillP, Nat.reduceAdd]
  have c0 := hKB.b0.cell 1
  have c1 := hKB.b0.lt
  have HK := Lib.hid hKB
  by_cases hlt : i < n
  · obtain ⟨rb, ro, _, rfl, hrw, _, _, _⟩ := Hs.out.ltR hlt
    obtain ⟨rb', ro', x, hA', hrb, hx, g0, g1⟩ := (Hs.out.later hKB.bx.bel).ltR hlt
    cases hA'
    have hxr := Hr.out.2 x (List.mem_of_getElem? hx)
    have hadd := later_take (d := d) hx
    obtain ⟨xs, hxs⟩ : ∃ xs, (rs.take i).map (laterR d) = xs := ⟨_, rfl⟩
    obtain ⟨xy, hxy⟩ : ∃ xy, (rs.take (i + 1)).map (laterR d) = xy := ⟨_, rfl⟩
    have hxl : xs.length ≤ 100 := by rw [← hxs]; simp; omega
    rw [hxs] at hKB HK hadd
    rw [hxy] at hadd
    have Hadd := Lib.hid hadd
    have Hxy := Lib.hid hxy
    have i1 : (i : Int) < (n : Int) := by omega
    have i2 : (0 : Int) ≤ (i : Int) := by omega
    have i3 : IntKind.i64.wrap ((i : Int) + 1) = (i : Int) + 1 := by rw [IntKind.wrap_i64]; omega
    have i4 : IntKind.i64.wrap (x.lo + d) = x.lo + d := by rw [IntKind.wrap_i64]; omega
    have i5 : IntKind.i64.wrap (x.hi + d) = x.hi + d := by rw [IntKind.wrap_i64]; omega
    have b0 := hKB.bx.bp.cell 0
    have b1 := hKB.bx.bp.cell 1
    have b2 := hKB.bx.bp.lt
    have hne := hKB.bx.bp.notRow hKB.bx.own (by decide)
    have hne0 := hKB.b0.notRow hKB.bx.own (by decide)
    have hrow : ∀ r, v.ownBlock = some r → r < W.heap.size := fun r hr => own_lt hKB.bx.own r hr
    have hrbn : v.ownBlock ≠ some rb := fun e => by have := own_base hKB.bx.own rb e; omega
    have Hrow := Lib.hid hrow
    clear hKB hx hadd hxs hxy hrow
    go_wp2_with fail
    refine dagRow 22 20 v.ownBlock (by kernel_rfl) (by kernel_rfl) (.is ?_ :: .is ?_ :: .is ?_ :: .is ?_ :: .is ?_ :: .is ?_ :: .is ?_ :: .is ?_ :: .is ?_ :: .is ?_ :: .is ?_ :: .is ?_ :: .is ?_ :: .is ?_ :: .is ?_ :: .is ?_ :: .is ?_ :: .is ?_ :: .is ?_ :: .like (OneR W.heap.size (x.lo + d) (x.hi + d)) :: .like (RowR w.heap.size xy) :: .is ?_ :: []) rfl ?st1 ?gd1 ?stb1 ?ob1
    case st1 => repeat (first | exact stab_nil | refine stab_is ?_ | refine stab_like (OneR.stab _ _) ?_ | refine stab_like (RowR.stab _) ?_)
    case gd1 => intro o ho; cases ho; rfl
    case stb1 => repeat (first | exact stabT_nil | refine stabT_is ?_ | refine stabT_like (fun _ _ _ h1 h2 => h2.grown h1.2 Hrow.out) ?_)
    case ob1 =>
    intro env V hG
    have HK2 := Lib.hid (HK.out.b0.grown hG hne0)
    have HK3 := Lib.hid (HK.out.bx.bp.grown hG hne)
    have d1 := HK2.out.cell 1
    have d2 := HK2.out.lt
    have e1 := HK3.out.cell 1
    have e2 := HK3.out.lt
    have h0 := (World.cell?_of_block (a := ⟨rb, ro + i * 2, none⟩) (hG.block rb hrb (Ne.symm hrbn))).trans g0
    have h1 := (World.cell?_of_block (a := ⟨rb, ro + i * 2 + 1, none⟩) (hG.block rb hrb (Ne.symm hrbn))).trans g1
    have h2 := Nat.lt_of_lt_of_le hrb hG.size
    have HG := Lib.hid hG
    iterate 18 (refine oblsA_is (show _ ≠ (20 : Nat) by decide) ?_ ?_; unfold doesAt; go_simp; (try go_bits); (first | (refine ⟨brefl _, ?_⟩; rfl) | rfl); intro K hK; go_simp; refine hK _ ?_; clear hK K)
    refine oblsA_is (show _ ≠ (20 : Nat) by decide) ?_ ?_
    · unfold doesAt
      go_simp
      refine (to_any (x.lo + d) (x.hi + d) V).mono ?_
      rintro e w1 ⟨rfl, rfl⟩
      (refine ⟨?_, balloc (brefl _) _⟩; rfl)
    intro K hK
    go_simp
    refine hK _ ?_
    clear hK K
    refine oblsA_like (show _ ≠ (20 : Nat) by decide) (fun _ => ?_) ?_
    · unfold doesAt
      go_simp
      have hbn := Blk.new V 27 #[.int .i64 (x.lo + d), .int .i64 (x.hi + d)]
      exact ⟨balloc (brefl V) _, V.heap.size, rfl, HG.out.size, hbn.lt, hbn.cell 0, hbn.cell 1⟩
    intro K hK
    go_simp
    refine hK _ ?_
    clear hK K
    refine oblsA_app rfl (fun hl hp => ?_) ?_
    · obtain ⟨g, hE, hg1, hg2, hg3, hg4⟩ : OneR W.heap.size (x.lo + d) (x.hi + d) (env 19) V := hl ⟨19, .data⟩ (by simp) rfl
      refine app_of_run rfl (.tmp 40) (.tmp 58) 22 rfl rfl hE ?_
      exact run_app_rgB _ Hadd.out (own_later HK.out.bx.own hp) (one_news (x := laterR d x) hg3 hg4) (by omega) (by have := hp.size; have := HK.out.bx.bel.size; omega)
    intro K hK
    go_simp
    refine hK _ ?_
    clear hK K
    (refine oblsA_is (show _ ≠ (20 : Nat) by decide) ?_ ?_; unfold doesAt; go_simp; (try go_bits); (first | (refine ⟨brefl _, ?_⟩; rfl) | rfl); intro K hK; go_simp; refine hK _ ?_; clear hK K)
    refine oblsA_last (fun hok => ?_)
    have hrw : RowR w.heap.size xy (env 20) V := hok 20 _ rfl
    obtain ⟨v', hv'⟩ : ∃ v', env 20 = v' := ⟨_, rfl⟩
    rw [hv'] at hrw ⊢
    have hl1 : xy.length = xs.length + 1 := by rw [← Hadd.out]; simp
    have hrw' := hrw
    unfold RowR at hrw'
    rw [hl1] at hrw'
    have hrw2 := hrw'
    rw [← Hadd.out, List.flatMap_append] at hrw'
    obtain ⟨gg, cap, rfl⟩ := own_succ hrw2
    have HK4 := Lib.hid (HK.out.grown (x := laterR d x) HG.out (by simpa using hrw'))
    rw [Hadd.out] at HK4
    have f1 := HK3.out.frozen 1
    clear hrw hrw' hrw2 hv' hok hG h0 h1 h2 d1 d2 g0 g1 c0 c1 b0 b1 b2 hne hne0 hrbn hrb HK2 HK3 HG HK hl1
    unfold doesAt
    go_simp
    go_wp2
    rw [← Hxy.out] at HK4
    refine hK _ _ (q - 1) (by omega) ⟨rfl, i + 1, _, by omega, HK4.out, ?_⟩
    repeat (first | exact fits_nil | refine fits_none ?_ | refine fits_some ?_)
  · obtain rfl : i = n := by omega
    have hti : rs.take i = rs := by rw [← Hn.out]; exact List.take_length
    rw [hti] at HK
    clear hK hKB hti hlt c0 c1 hiq
    obtain ⟨xs, hxs⟩ : ∃ xs, rs.map (laterR d) = xs := ⟨_, rfl⟩
    have Hxs := Lib.hid hxs
    rw [hxs] at HK
    have hxl : xs.length = i := by rw [← hxs, List.length_map]; exact Hn.out
    obtain ⟨A', c', rfl, hX⟩ := HK.out.made
    rw [hxl] at hX HK
    have HK0 := Lib.hid (HK.out.lw Hs.out)
    have HX0 := Lib.hid hX
    clear HK hX hxs hxl
    obtain ⟨c0, c1, c2⟩ := HK0.out.cells
    obtain ⟨d0, d1, d2⟩ := HX0.out.cells
    by_cases hy2 : yardE (Ln : Int) xs = 0
    case neg =>
      have Hf2 := Lib.hid (fun W (h : Sl 2 encR W W.heap.size A' i c' xs) => fine_bad (Ln : Int) A' i c' xs W h hy2)
      clear hy2
      go_wp2_with fail
      refine (Hf2.out _ HX0.out.sl).mono ?_
      rintro e w3 ⟨rfl, hb⟩
      have HK1 := Lib.hid (HK0.out.later hb)
      have HX1 := Lib.hid (HX0.out.later hb)
      clear hb HK0 HX0 c0 c1 c2 d0 d1 d2
      obtain ⟨c0, c1, c2⟩ := HK1.out.cells
      obtain ⟨d0, d1, d2⟩ := HX1.out.cells
      go_wp2_with fail
      refine (works_any _).mono ?_
      rintro e we ⟨rfl, hbe⟩
      have HBE := Lib.hid (Below.later HK1.out.bel hbe)
      clear hbe
      go_wp2
      go_ret
      exact ⟨rfl, HBE.out⟩
    case pos =>
      have Hf2 := Lib.hid (fun W (h : Sl 2 encR W W.heap.size A' i c' xs) => fine_ok (Ln : Int) A' i c' xs W h hy2)
      obtain ⟨_, hr2⟩ := yard_ok hy2
      have Hy2 := Lib.hid hy2
      have hr2' : RsOk (rs.map (laterR d)) := by rw [Hxs.out]; exact hr2
      have hl1 := late_later (L := Ln) d Hr.out hr2' hLn.1
      have hl2 := early_later (L := Ln) d Hr.out hr2' hLn.1
      rw [Hxs.out] at hl1 hl2
      have hn1 := late_len Hr.out hLn.1
      have hn2 := early_len Hr.out hLn.1
      have hn3 := late_len hr2 hLn.1
      have hbd := la_bound Hr.out hLn 101
      have hge1 := fun t h => late_range Hr.out hLn.1 t h
      have hge2 : ∀ t ∈ earlyOf rs Ln, 0 ≤ t ∧ t ≤ 100 := fun t h => by
        unfold earlyOf at h
        obtain ⟨u, hu, rfl⟩ := List.mem_map.1 h
        have := late_range (back_ok Hr.out) hLn.1 u (List.mem_reverse.1 hu)
        omega
      have he1 := early_is Hy.out
      have he2 := early_is hy2
      have he3 := late_is Hy.out
      have he4 := late_is hy2
      rw [hl2] at he2
      rw [hl1] at he4 hn3
      obtain ⟨es, hes⟩ : ∃ es, earlyOf rs Ln = es := ⟨_, rfl⟩
      obtain ⟨cs, hcs⟩ : ∃ cs, lateOf rs Ln = cs := ⟨_, rfl⟩
      rw [hes] at he1 he2 hn2 hge2
      rw [hcs] at he3 he4 hn1 hn3 hge1
      obtain ⟨v, hv⟩ : ∃ v, LA rs Ln 101 = v := ⟨_, rfl⟩
      rw [hv] at hn1 hn2 hbd
      have hv2 : LA xs Ln 101 = v := by rw [← hn3, ← hn1, List.length_map]
      obtain ⟨m, hm⟩ : ∃ m, cs.length = m := ⟨_, rfl⟩
      have hm2 : es.length = m := by omega
      have hm60 : m ≤ 200000 := by omega
      have He1 := Lib.hid he1
      have He2 := Lib.hid he2
      have He3 := Lib.hid he3
      have He4 := Lib.hid he4
      have Hv := Lib.hid hv
      have Hv2 := Lib.hid hv2
      have Hg1 := Lib.hid hge1
      have Hg2 := Lib.hid hge2
      have Hm := Lib.hid hm
      have Hm2 := Lib.hid hm2
      clear hy2 hr2 hr2' hl1 hl2 hn1 hn2 hn3 hbd hge1 hge2 he1 he2 he3 he4 hes hcs hv hv2 hm hm2
      go_wp2_with fail
      refine (Hf2.out _ HX0.out.sl).mono ?_
      rintro e w4 ⟨rfl, hb⟩
      have HK1 := Lib.hid (HK0.out.later hb)
      have HX1 := Lib.hid (HX0.out.later hb)
      clear hb HK0 HX0 c0 c1 c2 d0 d1 d2
      obtain ⟨c0, c1, c2⟩ := HK1.out.cells
      obtain ⟨d0, d1, d2⟩ := HX1.out.cells
      go_wp2_with fail
      refine (fewestL_any Ln A i c rs _ HK1.out.sl Hy.out).mono ?_
      rintro e w5 ⟨g1, hh1, rfl, hb, _, _, _⟩
      have HK2 := Lib.hid (HK1.out.later hb)
      have HX2 := Lib.hid (HX1.out.later hb)
      clear hb HK1 HX1 c0 c1 c2 d0 d1 d2
      obtain ⟨c0, c1, c2⟩ := HK2.out.cells
      obtain ⟨d0, d1, d2⟩ := HX2.out.cells
      rw [Hv.out]
      go_wp2_with fail
      refine (fewestL_any Ln A' i c' xs _ HX2.out.sl Hy2.out).mono ?_
      rintro e w6 ⟨g2, hh2, rfl, hb, _, _, _⟩
      have HK3 := Lib.hid (HK2.out.later hb)
      have HX3 := Lib.hid (HX2.out.later hb)
      clear hb HK2 HX2 c0 c1 c2 d0 d1 d2
      obtain ⟨c0, c1, c2⟩ := HK3.out.cells
      obtain ⟨d0, d1, d2⟩ := HX3.out.cells
      rw [Hv2.out]
      go_wp2_with fail
      refine (early_any (Ln : Int) A i c rs _ HK3.out.sl).mono ?_
      rintro e w7 ⟨v3, rfl, hb, ho⟩
      have HK4 := Lib.hid (HK3.out.later hb)
      have HX4 := Lib.hid (HX3.out.later hb)
      clear hb HK3 HX3 c0 c1 c2 d0 d1 d2
      obtain ⟨c0, c1, c2⟩ := HK4.out.cells
      obtain ⟨d0, d1, d2⟩ := HX4.out.cells
      rw [Hy.out]
      rw [He1.out, Hm2.out] at ho
      obtain ⟨GA, da, rfl, hsl⟩ := own_slI ho Hm2.out
      have HA4 := Lib.hid hsl
      clear ho hsl
      go_wp2_with fail
      refine (early_any (Ln : Int) A' i c' xs _ HX4.out.sl).mono ?_
      rintro e w8 ⟨v4, rfl, hb, ho⟩
      have HK5 := Lib.hid (HK4.out.later hb)
      have HX5 := Lib.hid (HX4.out.later hb)
      have HA5 := Lib.hid (HA4.out.later hb)
      clear hb HK4 HX4 HA4 c0 c1 c2 d0 d1 d2
      obtain ⟨c0, c1, c2⟩ := HK5.out.cells
      obtain ⟨d0, d1, d2⟩ := HX5.out.cells
      rw [Hy2.out]
      have hm3 : (es.map (· + d)).length = m := by rw [List.length_map]; exact Hm2.out
      rw [He2.out, hm3] at ho
      obtain ⟨GB, db, rfl, hsl⟩ := own_slI ho hm3
      have HB5 := Lib.hid hsl
      clear ho hsl hm3
      go_wp2_with fail
      refine (late_any (Ln : Int) A i c rs _ HK5.out.sl).mono ?_
      rintro e w9 ⟨v5, rfl, hb, ho, _⟩
      have HK6 := Lib.hid (HK5.out.later hb)
      have HX6 := Lib.hid (HX5.out.later hb)
      have HA6 := Lib.hid (HA5.out.later hb)
      have HB6 := Lib.hid (HB5.out.later hb)
      clear hb HK5 HX5 HA5 HB5 c0 c1 c2 d0 d1 d2
      obtain ⟨c0, c1, c2⟩ := HK6.out.cells
      obtain ⟨d0, d1, d2⟩ := HX6.out.cells
      rw [Hy.out]
      rw [He3.out, Hm.out] at ho
      obtain ⟨GC, dc, rfl, hsl⟩ := own_slI ho Hm.out
      have HC6 := Lib.hid hsl
      clear ho hsl
      go_wp2_with fail
      refine (late_any (Ln : Int) A' i c' xs _ HX6.out.sl).mono ?_
      rintro e w10 ⟨v6, rfl, hb, ho, _⟩
      have HK7 := Lib.hid (HK6.out.later hb)
      have HX7 := Lib.hid (HX6.out.later hb)
      have HA7 := Lib.hid (HA6.out.later hb)
      have HB7 := Lib.hid (HB6.out.later hb)
      have HC7 := Lib.hid (HC6.out.later hb)
      clear hb HK6 HX6 HA6 HB6 HC6 c0 c1 c2 d0 d1 d2
      obtain ⟨c0, c1, c2⟩ := HK7.out.cells
      obtain ⟨d0, d1, d2⟩ := HX7.out.cells
      rw [Hy2.out]
      have hm3 : (cs.map (· + d)).length = m := by rw [List.length_map]; exact Hm.out
      rw [He4.out, hm3] at ho
      obtain ⟨GD, dd, rfl, hsl⟩ := own_slI ho hm3
      have HT := Lib.hid (show FL w w10 GA GB GC GD m da db dc dd es (es.map (· + d)) cs (cs.map (· + d)) from ⟨HK7.out.bel, HA7.out, HB7.out, HC7.out, hsl⟩)
      clear ho hsl hm3 HK7 HX7 HA7 HB7 HC7 c0 c1 c2 d0 d1 d2
      go_wp2_with fail
      refine loop_n (fun q a W => a.defers = [] ∧ ∃ (j : Nat), j + q = m ∧ FL w W GA GB GC GD m da db dc dd es (es.map (· + d)) cs (cs.map (· + d)) ∧ Fits (none :: none :: none :: none :: none :: some (.int .i64 d) :: none :: none :: none :: none :: none :: none :: none :: none :: some (.slice GA m da) :: none :: some (.slice GB m db) :: none :: some (.slice GC m dc) :: none :: some (.slice GD m dd) :: none :: some (.int .i64 (j : Nat)) :: none :: none :: none :: none :: none :: none :: none :: none :: none :: none :: none :: none :: none :: none :: none :: none :: none :: none :: none :: none :: none :: none :: none :: none :: none :: none :: none :: none :: none :: none :: none :: none :: none :: none :: none :: none :: none :: none :: none :: none :: none :: none :: none :: none :: none :: none :: none :: none :: none :: none :: none :: none :: none :: none :: none :: none :: none :: none :: none :: none :: none :: none :: none :: none :: none :: none :: none :: none :: none :: none :: none :: none :: none :: none :: none :: none :: none :: none :: none :: none :: none :: none :: none :: none :: none :: none :: none :: none :: none :: none :: none :: none :: none :: none :: none :: none :: none :: none :: none :: none :: none :: none :: none :: none :: none :: none :: none :: none :: none :: none :: none :: none :: none :: none :: none :: none :: none :: none :: none :: none :: none :: none :: none :: none :: none :: none :: none :: none :: none :: none :: none :: none :: none :: none :: none :: none :: none :: none :: none :: none :: none :: none :: none :: none :: none :: none :: none :: none :: none :: none :: none :: none :: none :: []) a.tmps.toList) m ?_ ?_
      · refine ⟨rfl, 0, by omega, HT.out, ?_⟩
        repeat (first | exact fits_nil | refine fits_none ?_ | refine fits_some ?_)
      clear HT
      intro q a W hI K hK
      obtain ⟨hds, j, hjq, hT, hfit⟩ := hI
      obtain ⟨f', hf'⟩ := fits_act hfit
      rw [hds] at hf'
      subst hf'
      clear hfit hds
      simp only [fillP, Nat.reduceAdd]
      have HT := Lib.hid hT
      by_cases hlt : j < m
      · obtain ⟨ba, oa, x, rfl, hba, hx, x0⟩ := hT.sa.ltI hlt
        obtain ⟨bb, ob, x', rfl, hbb, hx', y0⟩ := hT.sb.ltI hlt
        obtain ⟨bc, oc, z, rfl, hbc, hz, z0⟩ := hT.sc.ltI hlt
        obtain ⟨bd, od, z', rfl, hbd, hz', u0⟩ := hT.sd.ltI hlt
        rw [List.getElem?_map, hx] at hx'
        rw [List.getElem?_map, hz] at hz'
        cases hx'
        cases hz'
        have hxr := Hg2.out x (List.mem_of_getElem? hx)
        have hzr := Hg1.out z (List.mem_of_getElem? hz)
        have i1 : (j : Int) < (m : Int) := by omega
        have i2 : (0 : Int) ≤ (j : Int) := by omega
        have i3 : IntKind.i64.wrap ((j : Int) + 1) = (j : Int) + 1 := by rw [IntKind.wrap_i64]; omega
        obtain ⟨x2, hx2⟩ : ∃ y, x + d = y := ⟨_, rfl⟩
        obtain ⟨z2, hz2⟩ : ∃ y, z + d = y := ⟨_, rfl⟩
        have i4 : IntKind.i64.wrap (x2 - d) = x := by rw [IntKind.wrap_i64]; omega
        have i5 : IntKind.i64.wrap (z2 - d) = z := by rw [IntKind.wrap_i64]; omega
        simp only [hx2] at y0
        simp only [hz2] at u0
        clear hT hx hz hx2 hz2 hxr hzr
        go_wp2_with fail
        refine dag 24 (by kernel_rfl) (by kernel_rfl) (.is ?_ :: .is ?_ :: .is ?_ :: .is ?_ :: .is ?_ :: .is ?_ :: .is ?_ :: .is ?_ :: .is ?_ :: .is ?_ :: .is ?_ :: .is ?_ :: .is ?_ :: .is ?_ :: .is ?_ :: .is ?_ :: .is ?_ :: .is ?_ :: .is ?_ :: .is ?_ :: .is ?_ :: .is ?_ :: .is ?_ :: .is ?_ :: []) rfl ?st2 ?ob2
        case st2 => simp [Spec.ok]
        case ob2 =>
        intro env V hG
        obtain ⟨hc, hf⟩ := bcell hG
        repeat (refine obls_is ?_ ?_; unfold doesAt; go_simp; (try go_bits); (first | (refine ⟨brefl _, ?_⟩; rfl) | rfl); intro K hK; go_simp; refine hK _ ?_; clear hK K)
        refine obls_nil (fun _ => ?_)
        have HT2 := Lib.hid (HT.out.later hG)
        clear hc hf hG HT x0 y0 z0 u0 hba hbb hbc hbd
        go_wp2
        refine hK _ _ (q - 1) (by omega) ⟨rfl, j + 1, by omega, HT2.out, ?_⟩
        repeat (first | exact fits_nil | refine fits_none ?_ | refine fits_some ?_)
      · obtain rfl : j = m := by omega
        have HB := Lib.hid HT.out.bel
        clear hK hT HT
        go_wp2_with fail
        refine (works_any _).mono ?_
        rintro e we ⟨rfl, hbe⟩
        have HBE := Lib.hid (Below.later HB.out hbe)
        clear hbe
        go_wp2
        go_ret
        exact ⟨rfl, HBE.out⟩
end Go.Proofs.Ytbbdlebmagknmaa
