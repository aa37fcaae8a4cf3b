/- grade.CheckProof, walked. -/
import Derived.Test.YtmfiggbobaihcaaGProofA
namespace Go.Proofs.Ytmfiggbobaihcaa
open Go.RowKit Go.Shelf
attribute [local go_sem] Oper.semAt_some

theorem own_cells {W : World} {base size n : Nat} {e : TypeId} {v : Value} {xs : List Value} (h : W.ownsRow base e size v n xs) : ∀ (j : Nat) (o : Obj), v.ownBlock = some j → W.heap[j]? = some o → o.isCells = true := by
  intro j o hj ho
  rcases h.2 with ⟨rfl, _⟩ | ⟨g, cap, cur, rfl, _, hg, _⟩
  · cases hj
  · simp only [Value.ownBlock, Option.some.injEq] at hj
    subst hj
    rw [hg] at ho
    cases ho
    rfl
theorem KpS.row {ok : Nat → Prop} {A B : World} {row : Option Nat} (hg : A.grownBy B row) (hr : ∀ r, row = some r → ¬ ok r) : KpS ok A B :=
  ⟨hg.size, fun k _ _ _ ho hk => (hg.block k (Array.getElem?_eq_some_iff.1 hk).1 (fun e' => hr k e'.symm ho)).trans hk⟩
theorem KeepD.row {W0 W W' : World} {row : Option Nat} (h : KeepD W0 W) (hg : W.grownBy W' row) (hr : ∀ r, row = some r → W0.heap.size ≤ r) : KeepD W0 W' := by
  intro k c hk
  have h1 := h k c hk
  exact (hg.block k (Array.getElem?_eq_some_iff.1 h1).1 (fun e => by have := hr k e.symm; have := (Array.getElem?_eq_some_iff.1 hk).1; omega)).trans h1
section
variable (SA : Option Addr) (sn sc : Nat) (PA : Option Addr) (pn pc : Nat) (OA : Option Addr) (on oc : Nat) (S P : List Int) (O : List Od) (LA : Option Addr) (ln lc : Nat) (L : List Int) (w : World) (hs : ShopIn w w.heap.size SA sn sc PA pn pc OA on oc S P O) (hl : Sl 1 encI w w.heap.size LA ln lc L)
include hs hl
set_option maxRecDepth 100000 in
set_option maxHeartbeats 4000000 in
theorem checkProof_bad (hne : (proofR S P O L).2 ≠ 0) : Calls Try.prog 33 #[.agg #[.slice SA sn sc, .slice PA pn pc, .slice OA on oc], .slice LA ln lc] w fun e w' => e = .returned (.tuple #[.int .i64 (proofR S P O L).1, .int .i64 (proofR S P O L).2]) ∧ Below w.heap.size w w' := by
  obtain rfl := hl.len
  have HL0 := Lib.hid (ListIn.later (ListIn.later ⟨hl⟩ (balloc (brefl w) (.cells #[.slice SA sn sc, .slice PA pn pc, .slice OA on oc] 25))) (balloc (brefl _) (.cells #[.slice LA L.length lc] 22)))
  have HY0 := Lib.hid (show Blk ((w.alloc (.cells #[.slice SA sn sc, .slice PA pn pc, .slice OA on oc] 25)).alloc (.cells #[.slice LA L.length lc] 22)) (w.heap.size + 1) 22 #[.slice LA L.length lc] from by simpa using Blk.new (w.alloc (.cells #[.slice SA sn sc, .slice PA pn pc, .slice OA on oc] 25)) 22 #[.slice LA L.length lc])
  obtain rfl := hs.stk.len
  obtain rfl := hs.prc.len
  obtain rfl := hs.ord.len
  have HG0 := Lib.hid (GW.start hs)
  obtain ⟨g0, g1, g2, g3⟩ := HG0.out.cells
  have HG1 := Lib.hid (HG0.out.later (balloc (brefl _) (.cells #[.slice LA L.length lc] 22)))
  clear HG0 g0 g1 g2 g3
  have HG0 := HG1
  clear HG1
  obtain ⟨g0, g1, g2, g3⟩ := HG0.out.cells
  have y0 := HY0.out.cell 0
  have y1 := HY0.out.lt
  by_cases he : shopE S P O = 0
  case neg =>
    have hr : proofR S P O L = (0, shopE S P O) := if_pos he
    rw [hr]
    have Ho := Lib.hid (fun W (h : ShopIn W W.heap.size SA S.length sc PA P.length pc OA O.length oc S P O) => open_bad SA S.length sc PA P.length pc OA O.length oc S P O W h he)
    obtain ⟨q, hq⟩ : ∃ q, shopE S P O = q := ⟨_, rfl⟩
    rw [hq] at Ho he ⊢
    have d1 : (q != 0) = true := by simpa using he
    clear hs hq he hne hr hl
    go_enter Try.func33, Try.ntmps33
    go_wp2_with fail
    refine (Ho.out _ HG0.out.sh).mono ?_
    rintro e w1 ⟨rfl, hb⟩
    have HG1 := Lib.hid (HG0.out.later hb)
    clear hb HG0 g0 g1 g2 g3
    obtain ⟨g0, g1, g2, g3⟩ := HG1.out.cells
    go_wp2
    go_ret2
    exact ⟨rfl, HG1.out.bel⟩
  have hF := fine_of he
  have Ho := Lib.hid (fun W (h : ShopIn W W.heap.size SA S.length sc PA P.length pc OA O.length oc S P O) => open_ok SA S.length sc PA P.length pc OA O.length oc S P O W h he)
  unfold proofR at hne ⊢
  rw [if_neg (fun h => h he)] at hne ⊢
  by_cases hn : L.length = S.length
  case neg =>
    rw [if_pos hn]
    have dn : ((L.length : Int) != (S.length : Int)) = true := by simp; omega
    have dn2 : ¬ L.length = S.length := hn
    clear hs he hF hn hl hne
    go_enter Try.func33, Try.ntmps33
    go_wp2_with fail
    refine (Ho.out _ HG0.out.sh).mono ?_
    rintro e w2 ⟨T, rfl, hb, hst, hT⟩
    have HG1 := Lib.hid (HG0.out.later hb)
    have HY1 := Lib.hid (HY0.out.later hb)
    clear hb HG0 HY0 g0 g1 g2 g3
    obtain ⟨g0, g1, g2, g3⟩ := HG1.out.cells
    clear hst hT y0 y1
    have y0 := HY1.out.cell 0
    have y1 := HY1.out.lt
    go_wp2
    go_ret2
    exact ⟨rfl, HG1.out.bel⟩
  rw [if_neg (fun h => h hn)] at hne ⊢
  have dn : ((L.length : Int) != (S.length : Int)) = false := by simp; omega
  cases ha : L.any (outR 0 100) with
  | false => rw [ha] at hne; exact absurd rfl hne
  | true =>
  have Ha := Lib.hid ha
  rw [if_pos rfl]
  clear hs he hF hn hl hne ha
  go_enter Try.func33, Try.ntmps33
  go_wp2_with fail
  refine (Ho.out _ HG0.out.sh).mono ?_
  rintro e w3 ⟨T, rfl, hb, hst, hT⟩
  have HG1 := Lib.hid (HG0.out.later hb)
  have HY1 := Lib.hid (HY0.out.later hb)
  have HL1 := Lib.hid (HL0.out.later hb)
  clear hb HG0 HY0 HL0 g0 g1 g2 g3
  obtain ⟨g0, g1, g2, g3⟩ := HG1.out.cells
  clear hst hT y0 y1
  have y0 := HY1.out.cell 0
  have y1 := HY1.out.lt
  go_wp2_with fail
  refine (within_any 0 100 _ _ _ L _ HL1.out.sl).mono ?_
  rintro e w4 ⟨rfl, hb⟩
  have HG2 := Lib.hid (HG1.out.later hb)
  have HY2 := Lib.hid (HY1.out.later hb)
  have HL2 := Lib.hid (HL1.out.later hb)
  clear hb HG1 HY1 HL1 g0 g1 g2 g3
  obtain ⟨g0, g1, g2, g3⟩ := HG2.out.cells
  rw [Ha.out]
  clear y0 y1
  have y0 := HY2.out.cell 0
  have y1 := HY2.out.lt
  go_wp2
  go_ret2
  exact ⟨rfl, HG2.out.bel⟩
set_option maxRecDepth 100000 in
set_option maxHeartbeats 8000000 in
theorem checkProof_ok (he : shopE S P O = 0) (hn : L.length = S.length) (ha : L.any (outR 0 100) = false) : Calls Try.prog 33 #[.agg #[.slice SA sn sc, .slice PA pn pc, .slice OA on oc], .slice LA ln lc] w fun e w' => e = .returned (.tuple #[.int .i64 (proofV S P O L), .int .i64 0]) ∧ Below w.heap.size w w' := by
  obtain rfl := hl.len
  obtain rfl := hs.stk.len
  obtain rfl := hs.prc.len
  obtain rfl := hs.ord.len
  have Hs := Lib.hid hs
  have Hl := Lib.hid hl
  have hbb := balloc (balloc (brefl w) (.cells #[.slice SA S.length sc, .slice PA P.length pc, .slice OA O.length oc] 25)) (.cells #[.slice LA L.length lc] 22)
  have HB := Lib.hid hbb
  have HG0 := Lib.hid ((GW.start hs).later (balloc (brefl _) (.cells #[.slice LA L.length lc] 22)))
  have HY0 := Lib.hid (show Blk ((w.alloc (.cells #[.slice SA S.length sc, .slice PA P.length pc, .slice OA O.length oc] 25)).alloc (.cells #[.slice LA L.length lc] 22)) (w.heap.size + 1) 22 #[.slice LA L.length lc] from by simpa using Blk.new (w.alloc (.cells #[.slice SA S.length sc, .slice PA P.length pc, .slice OA O.length oc] 25)) 22 #[.slice LA L.length lc])
  obtain ⟨g0, g1, g2, g3⟩ := HG0.out.cells
  have y0 := HY0.out.cell 0
  have y1 := HY0.out.lt
  have hF := fine_of he
  have hL : ∀ x ∈ L, 0 ≤ x ∧ x ≤ 100 := fun x hx => out_in (by simpa using List.any_eq_false.1 ha x hx)
  have HF := Lib.hid hF
  have HLb := Lib.hid hL
  have Ha := Lib.hid ha
  have Ho := Lib.hid (fun W (h : ShopIn W W.heap.size SA S.length sc PA P.length pc OA O.length oc S P O) => open_ok SA S.length sc PA P.length pc OA O.length oc S P O W h he)
  have dn : ((L.length : Int) != (S.length : Int)) = false := by simp; omega
  have Hn := Lib.hid hn
  obtain ⟨res, hres⟩ : ∃ res, proofV S P O L = res := ⟨_, rfl⟩
  rw [hres]
  have Hres := Lib.hid hres
  have HL0 := Lib.hid (ListIn.later ⟨hl⟩ hbb)
  clear hs hl hF hL ha he hn hres hbb
  refine calls_of_marks Try.func33 rfl ?_
  simp only [Try.ntmps33, List.size_toArray, List.length_cons, List.length_nil, Nat.reduceAdd, Nat.reduceSub, Array.replicate_succ, Array.replicate_zero, List.push_toArray, List.append_toArray, List.nil_append, List.cons_append]
  go_wp2_with fail
  refine (Ho.out _ HG0.out.sh).mono ?_
  rintro e w5 ⟨T, rfl, hb, hst, hT⟩
  have HG1 := Lib.hid (HG0.out.later hb)
  have HY1 := Lib.hid (HY0.out.later hb)
  have HL1 := Lib.hid (HL0.out.later hb)
  clear hb HG0 HY0 HL0 g0 g1 g2 g3
  obtain ⟨g0, g1, g2, g3⟩ := HG1.out.cells
  have HO1 := Lib.hid hst
  have HT := Lib.hid (show w.heap.size + 1 + 1 ≤ T by simpa using hT)
  clear hst hT y0 y1
  obtain ⟨o0, o1, o2, o3⟩ := HO1.out.cells
  have y0 := HY1.out.cell 0
  have y1 := HY1.out.lt
  go_wp2_with fail
  refine (within_any 0 100 _ _ _ L _ HL1.out.sl).mono ?_
  rintro e w6 ⟨rfl, hb⟩
  have HG2 := Lib.hid (HG1.out.later hb)
  have HY2 := Lib.hid (HY1.out.later hb)
  have HL2 := Lib.hid (HL1.out.later hb)
  have HO2 := Lib.hid (HO1.out.later hb)
  clear hb HG1 HY1 HL1 HO1 g0 g1 g2 g3 o0 o1 o2 o3
  obtain ⟨g0, g1, g2, g3⟩ := HG2.out.cells
  obtain ⟨o0, o1, o2, o3⟩ := HO2.out.cells
  rw [Ha.out]
  clear y0 y1
  have y0 := HY2.out.cell 0
  have y1 := HY2.out.lt
  have HV0 := Lib.hid (show PV w w6 T SA S.length sc PA P.length pc OA O.length oc S P O LA L.length lc from ⟨HG2.out.bel, HG2.out.b0, HY2.out, HO2.out.b0⟩)
  clear HG2 HY2 HL2 HO2
  go_wp2_with fail
  clear g0 g1 g2 g3 o0 o1 o2 o3 y0 y1
  have HW := Lib.hid (show w.heap.size + 1 + 1 ≤ w6.heap.size from HV0.out.b1.lt)
  generalize w6 = W0 at *
  refine loop_n (fun m a W => ∃ k : Nat, k + m = O.length ∧ Hid (PV w W T SA S.length sc PA P.length pc OA O.length oc S P O LA L.length lc) ∧ Hid (Marks (w.heap.size + 1) W a.defers) ∧ Fits (none :: none :: some (.pointer (some ⟨w.heap.size, 0, none⟩)) :: some (.pointer (some ⟨w.heap.size + 1, 0, none⟩)) :: none :: none :: some (.pointer (some ⟨T, 0, none⟩)) :: none :: some (.int .i64 (prT O (quM P L) k)) :: none :: none :: none :: none :: none :: none :: none :: none :: none :: none :: none :: none :: none :: none :: none :: none :: none :: none :: none :: none :: none :: none :: none :: none :: none :: none :: none :: some (.slice OA O.length oc) :: some (.int .i64 (O.length : Int)) :: some (.int .i64 (k : Nat)) :: none :: none :: none :: none :: none :: none :: none :: none :: none :: none :: none :: none :: none :: none :: none :: none :: none :: none :: none :: none :: none :: none :: none :: none :: none :: none :: none :: none :: none :: none :: none :: none :: none :: none :: none :: none :: none :: none :: none :: none :: none :: none :: none :: none :: none :: none :: none :: []) a.tmps.toList) O.length ?_ ?_
  · refine ⟨0, by omega, HV0, Lib.hid (Marks.nil _ _), ?_⟩
    repeat (first | exact fits_nil | refine fits_none ?_ | refine fits_some ?_)
  clear HV0 HW
  clear W0
  intro m a W hI K hK
  obtain ⟨k, hkm, HV, Hm, hfit⟩ := hI
  obtain ⟨f, hf⟩ := fits_act hfit
  generalize a.defers = ds at *
  subst hf
  clear hfit
  simp only [fillP, Nat.reduceAdd]
  by_cases hlt : k < O.length
  · obtain ⟨rb, ro, u, rfl, hrb, hu, g0, g1⟩ := ((Hs.out.later HV.out.bel).ord).ltO hlt
    have hat := HF.out.oin.at_ hlt
    rw [gAt_eq hu, mAt_eq hu] at hat
    obtain ⟨⟨a0, a1⟩, b0, b1⟩ := hat
    have h8 := HF.out.o8
    have j1 : (k : Int) < (O.length : Int) := by omega
    have j2 : (0 : Int) ≤ (k : Int) := by omega
    have j3 : IntKind.i64.wrap ((k : Int) + 1) = (k : Int) + 1 := by rw [IntKind.wrap_i64]; omega
    have Hu := Lib.hid hu
    have Ha1 := Lib.hid (And.intro a0 a1)
    have Hb1 := Lib.hid (And.intro b0 b1)
    have Hkm := Lib.hid (show k + m = O.length ∧ k < O.length from ⟨hkm, hlt⟩)
    clear hu a0 a1 b0 b1 hkm hlt h8
    go_wp2_with fail
    have hbE := balloc (balloc (brefl W) (.cells #[.int .i64 u.g, .int .i64 u.m] 66)) (.cells #[.slice none 0 0] 22)
    have hE1 := (Blk.new W 66 #[.int .i64 u.g, .int .i64 u.m]).alloc (.cells #[.slice none 0 0] 22)
    have hE2 := Blk.new (W.alloc (.cells #[.int .i64 u.g, .int .i64 u.m] 66)) 22 #[.slice none 0 0]
    rw [World.size_alloc] at hE2
    have HV2 := Lib.hid (HV.out.later hbE)
    have Hm2 := Lib.hid (Hm.out.later hbE)
    have HE1 := Lib.hid hE1
    have HE2 := Lib.hid hE2
    have HEs := Lib.hid (show ((W.alloc (.cells #[.int .i64 u.g, .int .i64 u.m] 66)).alloc (.cells #[.slice none 0 0] 22)).heap.size = W.heap.size + 1 + 1 by rw [World.size_alloc, World.size_alloc])
    have HNE := Lib.hid (show w.heap.size + 1 < W.heap.size ∧ T < W.heap.size from ⟨HV.out.b1.lt, HV.out.v0.lt⟩)
    clear hbE hE1 hE2 HV Hm g0 g1
    generalize (W.alloc (.cells #[.int .i64 u.g, .int .i64 u.m] 66)).alloc (.cells #[.slice none 0 0] 22) = W2 at *
    generalize W.heap.size = E at *
    clear W
    refine (grades_any T k _).mono ?_
    rintro e w3 ⟨rfl, hw3⟩
    have hb3 : Below W2.heap.size W2 w3 := by rw [← hw3]; exact balloc (balloc (brefl _) _) _
    have k1 : Blk w3 W2.heap.size 74 #[.pointer (some ⟨T, 0, none⟩)] := by rw [← hw3]; exact (Blk.new W2 _ _).alloc _
    have k2 : Blk w3 (W2.heap.size + 1) 3 #[.int .i64 (k : Int)] := by
      rw [← hw3]
      have h5 := Blk.new (W2.alloc (.cells #[.pointer (some ⟨T, 0, none⟩)] 74)) 3 #[.int .i64 (k : Int)]
      rw [World.size_alloc] at h5
      exact h5
    have HV3 := Lib.hid (HV2.out.later hb3)
    have Hm3 := Lib.hid (Hm2.out.later hb3)
    have HE4 := Lib.hid (HE1.out.later hb3)
    have HE5 := Lib.hid (HE2.out.later hb3)
    have HIR := Lib.hid (show IRg w3 W2.heap.size (W2.heap.size + 1) T w.heap.size SA S.length sc PA P.length pc (some ⟨rb, ro, none⟩) O.length oc O (stockM S) k from ⟨k1, k2, HV3.out.v0, Hs.out.ord.below HV3.out.bel⟩)
    have Hsz := Lib.hid (show W2.heap.size + 1 < w3.heap.size from k2.lt)
    clear hw3 hb3 k1 k2 HV2 Hm2 HE1 HE2
    go_wp2_with fail
    have hes := HEs.out
    have hsz := Hsz.out
    have hne := HNE.out
    have ht := HT.out
    have Hgn := Lib.hid (show u.g < S.length from Ha1.out.2)
    have hww : w.heap.size + 1 < w3.heap.size ∧ T < w3.heap.size ∧ E + 1 < w3.heap.size := by omega
    refine range_grades (ok := fun j => j ≠ E + 1 ∧ j < w3.heap.size) (gr := u.g.toNat) (d := 12) (w := w3) rfl Hu.out (by have := Ha1.out; omega) (by have := Ha1.out; have := HF.out.n5; omega) (by have := Ha1.out; omega) ⟨by omega, by omega⟩ ⟨by omega, by omega⟩ ⟨by omega, by omega⟩ (fun j hj => ⟨by omega, by omega⟩) HIR.out
      (fun (pre : List (Gd S.length)) Wx => ∃ v : Value, PV w Wx T SA S.length sc PA P.length pc (some ⟨rb, ro, none⟩) O.length oc S P O LA L.length lc ∧ Blk Wx E 66 #[.int .i64 u.g, .int .i64 u.m] ∧ Blk Wx (E + 1) 22 #[v] ∧ RowI w3.heap.size ((pre.map Subtype.val).map (quM P L)) v Wx ∧ KeepD w3 Wx)
      (fun c (pre : List (Gd S.length)) W => False)
      ?hI ?hIx
      ⟨.slice none 0 0, HV3.out, HE4.out, HE5.out, World.ownsRow_nil _ _ _ _, KeepD.refl _⟩ ?assign ?body ?done ?stop
    all_goals clear hes
    case hI =>
      intro pre W W' hK h
      obtain ⟨v, h1, h2, h3, h4, h5⟩ := h
      exact ⟨v, h1.kept hK (by omega), h2.kept hK, h3.kept hK, own_kept h4 hK, h5.kept hK⟩
    case hIx => exact fun c pre W W' hK h => h
    case assign =>
      intro l x W K hK
      simp only [setAct, List.setIfInBounds_toArray, List.set_cons_succ, List.set_cons_zero] at hK
      gi_wp2
      exact hK
    case body =>
      intro l' pre y W hWs hI hpl
      obtain ⟨v, hV, hx1, hx2, hrow, hKD⟩ := hI
      obtain ⟨y, hyn⟩ := y
      have hfold : ((pre ++ [(⟨y, hyn⟩ : Gd S.length)]).map Subtype.val).map (quM P L) = (pre.map Subtype.val).map (quM P L) ++ [quM P L y] := by simp
      have hpl2 : ((pre.map Subtype.val).map (quM P L)).length ≤ 1000 := by simp; omega
      generalize (pre.map Subtype.val).map (quM P L) = xs at *
      obtain ⟨pb, po, p, hPA, hpb, hp, p0⟩ := (Hs.out.prc.below hV.bel).ltI (i := y) (by have := HF.out.len; omega)
      obtain ⟨lb, lo, z, hLA, hlb, hz, z0⟩ := (Hl.out.below hV.bel).ltI (i := y) (by have := Hn.out; omega)
      subst hPA hLA
      have hq : quM P L y = p + z := by unfold quM; rw [sl_getD hp, sl_getD hz]
      have hqb := quM_bound HF.out HLb.out y
      rw [hq] at hfold hqb
      have y1 : (y : Int) < (P.length : Int) := by have := HF.out.len; omega
      have y2 : (0 : Int) ≤ (y : Int) := by omega
      have y3 : (y : Int) < (L.length : Int) := by have := Hn.out; omega
      have y4 : IntKind.i64.wrap (p + z) = p + z := by rw [IntKind.wrap_i64]; omega
      have hvb := own_base hrow
      have hvn : ∀ b, b < w3.heap.size → v.ownBlock ≠ some b := fun b hb e => by have := hvb b e; omega
      have hvl := own_lt hrow
      have hws : w.heap.size ≤ W.heap.size := hV.bel.size
      have Hfo := Lib.hid hfold
      have HV5 := Lib.hid hV
      have HX1 := Lib.hid hx1
      have HX2 := Lib.hid hx2
      have Hrow := Lib.hid hrow
      have HKD := Lib.hid hKD
      have HWs := Lib.hid hWs
      have c0 := hV.b0.cell 1
      have c1 := hV.b0.lt
      have c2 := hV.b1.cell 0
      have c3 := hV.b1.lt
      have c4 := hx2.cell 0
      have c5 := hx2.lt
      have Hpl := Lib.hid hpl2
      have Hvl := Lib.hid hvl
      have Hvn := Lib.hid hvn
      have Hvb := Lib.hid hvb
      have Hpb := Lib.hid (show pb < w3.heap.size ∧ lb < w3.heap.size from by omega)
      have hpW : pb < W.heap.size ∧ lb < W.heap.size := by omega
      clear hV hx1 hx2 hrow hKD hWs hfold hpb hlb hq hqb hpl2 hvl hvn hvb
      unfold setAct
      gi_wp2_with fail
      refine dagRowIn 13 12 v.ownBlock (lets_round l' 7 _) (by kernel_rfl) (by kernel_rfl) (.is ?_ :: .is ?_ :: .is ?_ :: .is ?_ :: .is ?_ :: .is ?_ :: .is ?_ :: .is ?_ :: .is ?_ :: .is ?_ :: .is ?_ :: .like (OneI W.heap.size (p + z)) :: .like (RowI w3.heap.size (xs ++ [p + z])) :: []) rfl ?st1 ?gd1 ?stb1 ?ob1
      case st1 => repeat (first | exact stab_nil | refine stab_is ?_ | refine stab_like OneI.stab ?_ | refine stab_like RowI.stab ?_)
      case gd1 => intro o ho; cases ho; rfl
      case stb1 => repeat (first | exact stabT_nil | refine stabT_is ?_ | refine stabT_like (fun _ _ _ h1 h2 => h2.grown h1.2 Hvl.out) ?_)
      case ob1 =>
        intro env V hG
        have hV6 := HV5.out.grown hG Hvb.out ⟨hww.1, hww.2.1⟩
        have hX6 := HX2.out.grown hG (Hvn.out _ hww.2.2)
        have d0 := hV6.b0.cell 1
        have d1 := hV6.b0.lt
        have d2 := hV6.b1.cell 0
        have d3 := hV6.b1.lt
        have d4 := hX6.cell 0
        have d5 := hX6.lt
        have d6 := hX6.frozen 0
        have q0 := (World.cell?_of_block (a := ⟨pb, po + y, none⟩) (hG.block pb hpW.1 (Ne.symm (Hvn.out pb Hpb.out.1)))).trans p0
        have q1 := (World.cell?_of_block (a := ⟨lb, lo + y, none⟩) (hG.block lb hpW.2 (Ne.symm (Hvn.out lb Hpb.out.2)))).trans z0
        have q2 := Nat.lt_of_lt_of_le hpW.1 hG.size
        have q3 := Nat.lt_of_lt_of_le hpW.2 hG.size
        have HG := Lib.hid hG
        have HV6 := Lib.hid hV6
        have HX6 := Lib.hid hX6
        have HE6 := Lib.hid (HX1.out.grown hG (Hvn.out E (by omega)))
        clear hV6 hX6 hG
        iterate 11 (refine oblsA_is (show _ ≠ (12 : Nat) by decide) ?_ ?_; unfold doesAt; go_simp; (try go_bits); (first | (refine ⟨brefl _, ?_⟩; rfl) | rfl); intro K hK; go_simp; refine hK _ ?_; clear hK K)
        refine oblsA_like (show _ ≠ (12 : Nat) by decide) (fun _ => ?_) ?_
        · unfold doesAt
          go_simp
          have hbn := Blk.new V 2 #[.int .i64 (p + z)]
          exact ⟨balloc (brefl V) _, V.heap.size, rfl, HG.out.size, hbn.lt, hbn.cell 0⟩
        intro K hK
        go_simp
        refine hK _ ?_
        clear hK K
        refine oblsA_app rfl (fun hl hp => ?_) ?_
        · obtain ⟨g, hE, hg1, hg2, hg3⟩ : OneI W.heap.size (p + z) (env 11) V := hl ⟨11, .data⟩ (by simp) rfl (.inl rfl)
          refine app_of_run rfl (.tmp 47) (.tmp 58) 22 rfl rfl hE ?_
          exact run_app_i _ (own_later Hrow.out hp) hg3 Hpl.out (by have := hp.size; have := HWs.out; omega)
        intro K hK
        go_simp
        refine hK _ ?_
        clear hK K
        refine oblsA_last (fun hok => ?_)
        have hrw : RowI w3.heap.size (xs ++ [p + z]) (env 12) V := hok 12 _ rfl (.inl rfl)
        obtain ⟨v', hv'⟩ : ∃ v', env 12 = v' := ⟨_, rfl⟩
        rw [hv'] at hrw ⊢
        have hrw2 := hrw
        unfold RowI at hrw2
        rw [List.length_append] at hrw2
        obtain ⟨gg, cap, rfl⟩ := own_succ hrw2
        have hgb := own_base hrw2 gg rfl
        have Hrw := Lib.hid hrw
        clear hrw hrw2 hv' hok
        unfold doesAt
        go_simp
        refine ⟨((KeepsOthers.of_grownBy HG.out (own_cells Hrow.out)).from _).trans (KeepsFrom.set _ _ _), (KpS.row HG.out (fun r hr h => by have := Hvb.out r hr; have := h.2; omega)).trans (KpS.set _ (fun h => h.1 rfl) _), .slice (some ⟨gg, 0, none⟩) (xs.length + 1) cap, HV6.out.set ⟨by show w.heap.size + 1 < E + 1; omega, by show E + 1 ≠ T; omega⟩ _, HE6.out.other (by show E + 1 ≠ E; omega) _, HX6.out.set 0 _, ?_, (HKD.out.row HG.out Hvb.out).set _ _⟩
        rw [Hfo.out]
        exact own_other Hrw.out _ (fun e => by simp only [Value.ownBlock, Option.some.injEq] at e; omega) _
    case done =>
      intro D' W5 ys hD' hys hI5 hd
      obtain ⟨v, hV5, hx5, hx6, hrow, hKD⟩ := hI5
      rw [hys] at hrow
      obtain ⟨x0, l0, hl0, hmin⟩ := minL_own (quM P L) u.g.toNat
      rw [hl0] at hrow
      have hgO : grO O k = u.g.toNat := by unfold grO; rw [gAt_eq Hu.out]
      have hT : prT O (quM P L) (k + 1) = prT O (quM P L) k + u.m * lowQ (quM P L) u.g.toNat := by
        rw [show prT O (quM P L) (k + 1) = prT O (quM P L) k + mAt O k * lowQ (quM P L) (grO O k) from rfl, hgO, mAt_eq Hu.out]
      have hb1 := prT_bound HF.out HLb.out (i := k) (by have := Hkm.out; omega)
      have hb2 := lowQ_bound (quM_bound HF.out HLb.out) u.g.toNat
      have hb3 := mul_bound Hb1.out hb2
      obtain ⟨A, c, rfl, hsl⟩ := own_slI hrow rfl
      obtain ⟨b0, o0, hA, _, _⟩ := hsl.at_ (by simp)
      subst hA
      have hbest := best_any b0 o0 (x0 :: l0).length c x0 l0
      rw [hmin] at hbest
      generalize lowQ (quM P L) u.g.toNat = lw at *
      have j4 : IntKind.i64.wrap (u.m * lw) = u.m * lw := by rw [IntKind.wrap_i64]; omega
      have j5 : IntKind.i64.wrap (prT O (quM P L) k + u.m * lw) = prT O (quM P L) k + u.m * lw := by rw [IntKind.wrap_i64]; omega
      have HT2 := Lib.hid hT
      have Hbest := Lib.hid hbest
      have Hsl := Lib.hid hsl
      have HV5 := Lib.hid hV5
      have HD := Lib.hid (show Marks (w.heap.size + 1) W5 (mark D' :: ds) from Hm3.out.cons hD' (by omega) hd (fun k c _ hk => hKD k c hk))
      have HX5 := Lib.hid hx5
      have HX6 := Lib.hid hx6
      generalize (x0 :: l0).length = nl at *
      generalize prT O (quM P L) k = q0 at *
      have c0 := hx5.cell 1
      have c1 := hx5.lt
      have c2 := hx6.cell 0
      have c3 := hx6.lt
      clear hV5 hx5 hx6 hrow hKD hys hl0 hT hgO hb1 hb2 hb3 hsl hbest hd hmin
      go_wp2_with fail
      refine dag 8 (by kernel_rfl) (by kernel_rfl) (.is ?_ :: .is ?_ :: .is ?_ :: .is ?_ :: .is ?_ :: .is ?_ :: .is ?_ :: .is ?_ :: []) rfl ?st3 ?ob3
      case st3 => simp [Spec.ok]
      case ob3 =>
        intro env W' hG
        obtain ⟨hc, hf⟩ := bcell hG
        iterate 4 (refine obls_is ?_ ?_; unfold doesAt; go_simp; (try go_bits); (first | (refine ⟨brefl _, ?_⟩; rfl) | rfl); intro K hK; go_simp; refine hK _ ?_; clear hK K)
        refine obls_is ?_ ?_
        · unfold doesAt
          go_simp
          refine (Hbest.out _ (Hsl.out.later hG)).mono ?_
          rintro e w1 ⟨rfl, hb1⟩
          (refine ⟨?_, hb1⟩; rfl)
        intro K hK
        go_simp
        refine hK _ ?_
        clear hK K
        iterate 3 (refine obls_is ?_ ?_; unfold doesAt; go_simp; (try go_bits); (first | (refine ⟨brefl _, ?_⟩; rfl) | rfl); intro K hK; go_simp; refine hK _ ?_; clear hK K)
        refine obls_nil (fun _ => ?_)
        have HV6 := Lib.hid (HV5.out.later hG)
        have HD6 := Lib.hid (HD.out.later hG)
        clear hc hf hG c0 c1 c2 c3 HV5 HD HX5 HX6
        go_wp2
        refine hK _ _ (m - 1) (by have := Hkm.out; omega) ⟨k + 1, by have := Hkm.out; omega, HV6, HD6, ?_⟩
        rw [HT2.out]
        repeat (first | exact fits_nil | refine fits_none ?_ | refine fits_some ?_)
    case stop =>
      intro D' c pre W5 hD' hI5 hd
      exact hI5.elim
  obtain rfl : k = O.length := by omega
  have i1 : ¬ (O.length : Int) < (O.length : Int) := by omega
  have hb1 := prT_bound HF.out HLb.out (i := O.length) (Nat.le_refl _)
  obtain ⟨q0, hq0⟩ : ∃ q0, prT O (quM P L) O.length = q0 := ⟨_, rfl⟩
  rw [hq0] at hb1 ⊢
  have Hq0 := Lib.hid hq0
  have Hb0 := Lib.hid hb1
  have y0 := HV.out.b1.cell 0
  have y1 := HV.out.b1.lt
  have y2 := HV.out.b0.cell 0
  have y3 := HV.out.b0.lt
  clear hK hkm hlt hq0 hb1
  go_wp2_with fail
  refine loop_n (fun m a W => a.defers = ds ∧ ∃ i : Nat, i + m = L.length ∧ Hid (PV w W T SA S.length sc PA P.length pc OA O.length oc S P O LA L.length lc) ∧ Hid (Marks (w.heap.size + 1) W ds) ∧ Fits (none :: none :: some (.pointer (some ⟨w.heap.size, 0, none⟩)) :: some (.pointer (some ⟨w.heap.size + 1, 0, none⟩)) :: none :: none :: none :: none :: some (.int .i64 (q0 - stT S L i)) :: none :: none :: none :: none :: none :: none :: none :: none :: none :: none :: none :: none :: none :: none :: none :: none :: none :: none :: none :: none :: none :: none :: none :: none :: none :: none :: none :: none :: none :: none :: none :: none :: none :: none :: none :: none :: none :: none :: none :: none :: none :: none :: none :: none :: none :: none :: none :: none :: none :: none :: none :: none :: none :: none :: none :: none :: none :: none :: none :: some (.slice LA L.length lc) :: some (.int .i64 (L.length : Int)) :: some (.int .i64 (i : Nat)) :: none :: none :: none :: none :: none :: none :: none :: none :: none :: none :: none :: none :: none :: none :: none :: []) a.tmps.toList) L.length ?_ ?_
  · refine ⟨rfl, 0, by omega, HV, Hm, ?_⟩
    rw [show q0 - stT S L 0 = q0 from Int.sub_zero q0]
    repeat (first | exact fits_nil | refine fits_none ?_ | refine fits_some ?_)
  clear HV Hm y0 y1 y2 y3
  clear W
  intro m a W hI K hK
  obtain ⟨hds, i, him, HV, Hm, hfit⟩ := hI
  obtain ⟨f, hf⟩ := fits_act hfit
  rw [hds] at hf
  subst hf
  clear hfit hds
  simp only [fillP, Nat.reduceAdd]
  have y2 := HV.out.b0.cell 0
  have y3 := HV.out.b0.lt
  have n5 := HF.out.n5
  have hn := Hn.out
  by_cases hlt : i < L.length
  · obtain ⟨lb, lo, z, rfl, hlb, hz, z0⟩ := (Hl.out.later HV.out.bel).ltI (i := i) hlt
    obtain ⟨sb, so, x, rfl, hsb, hx, x0⟩ := (Hs.out.later HV.out.bel).stk.ltI (i := i) (by omega)
    have hb1 := stT_bound HF.out HLb.out (i := i) (by omega)
    have hb2 := mul_bound (HLb.out z (List.mem_of_getElem? hz)) (HF.out.stk x (List.mem_of_getElem? hx))
    have hT : stT S L (i + 1) = stT S L i + z * x := by
      show sumF (fun g => L.getD g 0 * S.getD g 0) i + L.getD i 0 * S.getD i 0 = _
      rw [sl_getD hz, sl_getD hx]
      rfl
    have hb0 := Hb0.out
    have i2 : (i : Int) < (L.length : Int) := by omega
    have i3 : (0 : Int) ≤ (i : Int) := by omega
    have i4 : IntKind.i64.wrap ((i : Int) + 1) = (i : Int) + 1 := by rw [IntKind.wrap_i64]; omega
    have i5 : (i : Int) < (S.length : Int) := by omega
    have i6 : IntKind.i64.wrap (z * x) = z * x := by rw [IntKind.wrap_i64]; omega
    have i7 : IntKind.i64.wrap (q0 - stT S L i - z * x) = q0 - stT S L i - z * x := by rw [IntKind.wrap_i64]; omega
    have HT := Lib.hid (show q0 - stT S L (i + 1) = q0 - stT S L i - z * x by rw [hT]; omega)
    have Him := Lib.hid (show i + m = L.length ∧ i < L.length from ⟨him, hlt⟩)
    generalize stT S L i = st at *
    clear hT hb0 hb1 hb2 hz hx him hlt hn n5
    go_wp2
    refine hK _ _ (m - 1) (by have := Him.out; omega) ⟨rfl, i + 1, by have := Him.out; omega, HV, Hm, ?_⟩
    rw [HT.out]
    repeat (first | exact fits_nil | refine fits_none ?_ | refine fits_some ?_)
  obtain rfl : i = L.length := by omega
  have i2 : ¬ (L.length : Int) < (L.length : Int) := by omega
  have hr : q0 - stT S L L.length = res := by rw [← Hres.out, ← Hq0.out]; rfl
  rw [hr]
  clear hK him hlt hn n5 hr
  go_wp2_with fail
  exact postM_ret (B := w.heap.size + 1) (v := .tuple #[.int .i64 res, .int .i64 0]) Hm.out (fun W' => results_tmp2 (t := 4) (u := 5) rfl _ _ _) (fun W' hK => ⟨rfl, (HV.out.kept hK (by omega)).bel⟩)
end
end Go.Proofs.Ytmfiggbobaihcaa
