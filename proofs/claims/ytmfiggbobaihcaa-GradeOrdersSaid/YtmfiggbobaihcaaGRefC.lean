/- The document's With, Worth, Span. -/
import Derived.Test.YtmfiggbobaihcaaGRefB
import Derived.ArgAppend
import Derived.Laws.OwnMore
namespace Go.Proofs.Ytmfiggbobaihcaa
open Go.RowKit Go.Shelf

/-- An empty list of the region's own. -/
def EmpI (v : Value) (W : World) : Prop := ∃ g, v = .slice (some ⟨g, 0, none⟩) 0 0 ∧ g < W.heap.size
theorem EmpI.stab : ∀ v W W', Gr W W' → EmpI v W → EmpI v W' := fun _ _ _ hG ⟨g, h1, h2⟩ => ⟨g, h1, Nat.lt_of_lt_of_le h2 hG.size⟩
/-- A list is appended to an empty list. -/
theorem run_app_all {W : World} {g0 n c B : Nat} {A : Option Addr} {xs : List Int} (ty : TypeId) (hB : B ≤ W.heap.size) (hs : Sl 1 encI W W.heap.size A n c xs) (h0 : 0 < n) (h1 : n ≤ 1000) :
    ∃ v' W', (Builtin.append_ #[22, 22] ty #[.slice (some ⟨g0, 0, none⟩) 0 0, .slice A n c]).run Try.prog W = .ok v' W' ∧ (Gr W W' ∧ RowI B xs v' W') := by
  obtain ⟨i0, hi0, hz0, hz1, hz2⟩ := info_parts info_long
  obtain ⟨b, o, rfl, _, _⟩ := hs.at_ h0
  have hl := hs.len
  obtain ⟨v', W', e1, e2, e3⟩ := run_append_arg_grows (P := Try.prog) W 22 ty 2 i0 (.int .i64 0) 1 8 und_longs hi0 hz0 hz1 hz2 rfl (by decide) ⟨g0, 0, none⟩ 0 0 [] (by simp) (by simp) ⟨b, o, none⟩ n c (xs.map (Value.int .i64)) (by simp [hl]) (sl_news hs h0) (by omega) (by simp only [maxLen]; omega) (by omega)
  refine ⟨v', W', e1, ⟨e3.os, e3.tape, e3.output, e3.size, fun k hk => e3.block k hk (by simp)⟩, own_low ?_ hB⟩
  rw [hl]
  simpa using e2
/-- A new shop's box. -/
def NewG (B : Nat) (v : Value) (W : World) : Prop := ∃ g, v = .pointer (some ⟨g, 0, none⟩) ∧ B ≤ g ∧ Blk W g 25 #[.slice none 0 0, .slice none 0 0, .slice none 0 0]
theorem NewG.stab {B : Nat} : ∀ v W W', Gr W W' → NewG B v W → NewG B v W' := fun _ _ _ hG ⟨g, h1, h2, h3⟩ => ⟨g, h1, h2, h3.later hG⟩
/-- A shop whose stock is a list of the call's own. -/
def OwnG (B : Nat) (xs : List Int) (p o v : Value) (W : World) : Prop := ∃ u, v = .agg #[u, p, o] ∧ RowI B xs u W
theorem OwnG.stab {B : Nat} {xs : List Int} {p o : Value} : ∀ v W W', Gr W W' → OwnG B xs p o v W → OwnG B xs p o v W' := fun _ _ _ hG ⟨u, h1, h2⟩ => ⟨u, h1, own_later h2 hG⟩
theorem made_g {V : World} {B g : Nat} {xs : List Int} {u p o : Value} (hn : Blk V g 25 #[.slice none 0 0, .slice none 0 0, .slice none 0 0]) (ho : RowI B xs u V) :
    Blk (((V.setCell ⟨g, 0, none⟩ u).setCell ⟨g, 1, none⟩ p).setCell ⟨g, 2, none⟩ o) g 25 #[u, p, o] ∧ RowI B xs u (((V.setCell ⟨g, 0, none⟩ u).setCell ⟨g, 1, none⟩ p).setCell ⟨g, 2, none⟩ o) := by
  have hne := hn.notRow ho (by decide)
  exact ⟨((hn.set 0 _).set 1 _).set 2 _, own_other (own_other (own_other ho _ hne _) _ hne _) _ hne _⟩
theorem stockM_set {S : List Int} {g : Nat} (hg : g < S.length) (d : Int) : stockM (S.set g (S.getD g 0 + d)) = Gr9.upd (stockM S) g (stockM S g + d) := by
  funext j
  show (S.set g (S.getD g 0 + d)).getD j 0 = if j = g then S.getD g 0 + d else S.getD j 0
  rw [List.getD_eq_getElem?_getD, List.getElem?_set]
  by_cases e : g = j
  · subst e; rw [if_pos rfl, if_pos hg, if_pos rfl]; rfl
  · rw [if_neg e, if_neg (fun h => e h.symm), List.getD_eq_getElem?_getD]
set_option maxRecDepth 100000 in
set_option maxHeartbeats 4000000 in
theorem refWith_any (SA : Option Addr) (sn sc : Nat) (PA : Option Addr) (pn pc : Nat) (OA : Option Addr) (on oc : Nat) (S P : List Int) (O : List Od) (g : Nat) (d : Int) (w : World) (hs : ShopIn w w.heap.size SA sn sc PA pn pc OA on oc S P O) (hg : g < S.length) (h10 : S.length ≤ 10) (hS : ∀ x ∈ S, 0 ≤ x ∧ x ≤ 1000) (hd : 0 ≤ d ∧ d ≤ 1000) :
    Calls Try.prog 53 #[.agg #[.slice SA sn sc, .slice PA pn pc, .slice OA on oc], .int .i64 (g : Int), .int .i64 d] w fun e w' => ∃ A c, e = .returned (.agg #[.slice A S.length c, .slice PA pn pc, .slice OA on oc]) ∧ Below w.heap.size w w' ∧ Sl 1 encI w' w'.heap.size A S.length c (S.set g (S.getD g 0 + d)) := by
  obtain rfl := hs.stk.len
  obtain rfl := hs.prc.len
  obtain rfl := hs.ord.len
  have HG0 := Lib.hid (GW.start hs)
  obtain ⟨g0, g1, g2, g3⟩ := HG0.out.cells
  have HZ0 := Lib.hid (show Blk ((w.alloc (.cells #[.slice SA S.length sc, .slice PA P.length pc, .slice OA O.length oc] 25)).alloc (.cells #[.slice none 0 0, .slice none 0 0, .slice none 0 0] 25)) (w.heap.size + 1) 25 #[.slice none 0 0, .slice none 0 0, .slice none 0 0] from by simpa using Blk.new (w.alloc (.cells #[.slice SA S.length sc, .slice PA P.length pc, .slice OA O.length oc] 25)) 25 #[.slice none 0 0, .slice none 0 0, .slice none 0 0])
  have HG1 := Lib.hid (HG0.out.later (balloc (brefl _) (.cells #[.slice none 0 0, .slice none 0 0, .slice none 0 0] 25)))
  have hx := List.getElem?_eq_getElem hg
  have hx1 := hS _ (List.mem_of_getElem? hx)
  obtain ⟨x, hxe⟩ : ∃ x, S[g] = x := ⟨_, rfl⟩
  rw [hxe] at hx hx1
  have Hx := Lib.hid hx
  have HR := Lib.hid (show S.set g (S.getD g 0 + d) = S.set g (x + d) by rw [sl_getD hx])
  rw [HR.out]
  have hg2 : (g : Int) < (S.length : Int) := by omega
  have hg0 : (0 : Int) ≤ (g : Int) := by omega
  have hw : IntKind.i64.wrap (x + d) = x + d := by rw [IntKind.wrap_i64]; omega
  clear hs hS hd hx hx1 hxe HG0 g0 g1 g2 g3
  obtain ⟨g0, g1, g2, g3⟩ := HG1.out.cells
  have z0 := HZ0.out.lt
  go_enter Try.func53, Try.ntmps53
  go_wp2_with fail
  generalize hW0 : (w.alloc (.cells #[.slice SA S.length sc, .slice PA P.length pc, .slice OA O.length oc] 25)).alloc (.cells #[.slice none 0 0, .slice none 0 0, .slice none 0 0] 25) = W0 at *
  have HWs := Lib.hid (show W0.heap.size = w.heap.size + 1 + 1 by rw [← hW0]; simp)
  clear hW0
  refine dag 10 (by kernel_rfl) (by kernel_rfl) (.like EmpI :: .is ?_ :: .is ?_ :: .like (RowI W0.heap.size S) :: .is ?_ :: .is ?_ :: .is ?_ :: .is ?_ :: .like (OwnG W0.heap.size S (.slice PA P.length pc) (.slice OA O.length oc)) :: .like (NewG W0.heap.size) :: []) rfl ?st1 ?ob1
  case st1 => repeat (first | exact stab_nil | refine stab_is ?_ | refine stab_like EmpI.stab ?_ | refine stab_like RowI.stab ?_ | refine stab_like OwnG.stab ?_ | refine stab_like NewG.stab ?_)
  case ob1 =>
    intro env V hG
    obtain ⟨hc, hf⟩ := bcell hG
    have HV := Lib.hid hG
    have HG2 := Lib.hid (HG1.out.later hG)
    refine obls_like (fun _ => ?_) ?_
    · unfold doesAt
      go_simp
      exact ⟨balloc (brefl _) _, V.heap.size, rfl, by simp⟩
    intro K hK
    go_simp
    refine hK _ ?_
    clear hK K
    iterate 2 (refine obls_is ?_ ?_; unfold doesAt; go_simp; (try go_bits); (first | (refine ⟨brefl _, ?_⟩; rfl) | rfl); intro K hK; go_simp; refine hK _ ?_; clear hK K)
    refine obls_like (fun hl => ?_) ?_
    · obtain ⟨g', hE, _⟩ : EmpI (env 0) V := hl ⟨0, .data⟩ (by simp) rfl
      refine app_of_run rfl (.tmp 8) (.tmp 10) 22 rfl hE rfl ?_
      exact run_app_all _ HV.out.size HG2.out.sh.stk (by omega) (by omega)
    intro K hK
    go_simp
    refine hK _ ?_
    clear hK K
    iterate 4 (refine obls_is ?_ ?_; unfold doesAt; go_simp; (try go_bits); (first | (refine ⟨brefl _, ?_⟩; rfl) | rfl); intro K hK; go_simp; refine hK _ ?_; clear hK K)
    refine obls_like (fun hl => ?_) ?_
    · have h3 : RowI W0.heap.size S (env 3) V := hl ⟨3, .data⟩ (by simp) rfl
      obtain ⟨A3, c3, he3, _⟩ := own_slI h3 rfl
      rw [he3] at h3
      unfold doesAt
      simp only [he3]
      go_simp
      exact ⟨brefl V, _, rfl, h3⟩
    intro K hK
    go_simp
    refine hK _ ?_
    clear hK K
    refine obls_like (fun _ => ?_) ?_
    · unfold doesAt
      go_simp
      exact ⟨balloc (brefl V) _, V.heap.size, rfl, HV.out.size, Blk.new V _ _⟩
    intro K hK
    go_simp
    refine hK _ ?_
    clear hK K
    refine obls_last (fun hok => ?_)
    obtain ⟨u, he8, h8⟩ : OwnG W0.heap.size S (.slice PA P.length pc) (.slice OA O.length oc) (env 8) V := hok 8 _ rfl
    obtain ⟨gn, he9, hn1, hn2⟩ : NewG W0.heap.size (env 9) V := hok 9 _ rfl
    have h8' := h8
    unfold RowI at h8'
    obtain ⟨k, hk⟩ : ∃ k, S.length = k + 1 := ⟨S.length - 1, by omega⟩
    rw [hk] at h8'
    obtain ⟨gz, c', hu⟩ := own_succ h8'
    rw [← hk] at hu
    subst hu
    obtain ⟨hm1, hm2⟩ := made_g (p := .slice PA P.length pc) (o := .slice OA O.length oc) hn2 h8
    have x0 := hn2.cell 0
    have x1 := hn2.cell 1
    have x2 := hn2.cell 2
    have x3 := hn2.frozen 0
    have x4 := hn2.frozen 1
    have x5 := hn2.frozen 2
    have x6 := hn2.lt
    have hbb := Lib.hid (bset (bset (bset HV.out (p := ⟨gn, 0, none⟩) hn1 (.slice (some ⟨gz, 0, none⟩) S.length c')) (p := ⟨gn, 1, none⟩) hn1 (.slice PA P.length pc)) (p := ⟨gn, 2, none⟩) hn1 (.slice OA O.length oc))
    have HM1 := Lib.hid hm1
    have HM2 := Lib.hid hm2
    have Hn1 := Lib.hid hn1
    have Hgz := Lib.hid (own_base h8 gz rfl)
    rw [he8, he9]
    clear hok h8 h8' hk hn1 hn2 hm1 hm2 hG hc hf g0 g1 g2 g3
    unfold doesAt
    go_simp
    obtain ⟨wz, hwz⟩ : ∃ x, ((V.setCell ⟨gn, 0, none⟩ (.slice (some ⟨gz, 0, none⟩) S.length c')).setCell ⟨gn, 1, none⟩ (.slice PA P.length pc)).setCell ⟨gn, 2, none⟩ (.slice OA O.length oc) = x := ⟨_, rfl⟩
    rw [hwz] at HM1 HM2 hbb ⊢
    clear hwz x0 x1 x2 x3 x4 x5 x6 z0
    have HZ1 := Lib.hid (HZ0.out.later hbb.out)
    have HB1 := Lib.hid (Below.later HG1.out.bel hbb.out)
    clear HG1 HG2 HZ0 hbb HV he8 he9
    clear V
    have y0 := HM1.out.cell 0
    have y1 := HM1.out.cell 1
    have y2 := HM1.out.cell 2
    have y3 := HM1.out.lt
    have hrow := HM2.out
    unfold RowI at hrow
    have q0 := hrow.cellAt g (by omega)
    rw [List.getElem?_map, Hx.out, Option.map_some] at q0
    have q1 := hrow.frozenAt g
    have q2 := own_lt hrow gz rfl
    obtain ⟨hst1, hst2⟩ := hrow.stored g (.int .i64 (x + d))
    have hne : gn ≠ gz := fun e => HM1.out.notRow hrow (by decide) (by rw [e]; rfl)
    have hmo := HM1.out.other (p := ⟨gz, g, none⟩) (Ne.symm hne) (.int .i64 (x + d))
    have hzo := HZ1.out.other (p := ⟨gz, g, none⟩) (show gz ≠ w.heap.size + 1 by have := Hgz.out; have := HWs.out; omega) (.int .i64 (x + d))
    have hbo := HB1.out.setCell (p := ⟨gz, g, none⟩) (show w.heap.size ≤ gz by have := Hgz.out; have := HWs.out; omega) (.int .i64 (x + d))
    have Hst := Lib.hid hst1
    have HM3 := Lib.hid hmo
    have HZ3 := Lib.hid hzo
    have HB3 := Lib.hid hbo
    clear hrow hst1 hst2 hmo hzo hbo
    have r0 := HM3.out.cell 0
    have r1 := HM3.out.cell 1
    have r2 := HM3.out.cell 2
    have r3 := HZ3.out.cell 0
    have r3b := HZ3.out.cell 1
    have r3c := HZ3.out.cell 2
    have r4 := HZ3.out.frozen 0
    have r5 := HZ3.out.frozen 1
    have r6 := HZ3.out.frozen 2
    have r7 := HZ3.out.lt
    have hne2 : gn ≠ w.heap.size + 1 := by have := Hn1.out; have := HWs.out; omega
    go_wp2

    have hzf := (((HZ3.out.set 0 (.slice (some ⟨gz, 0, none⟩) S.length c')).set 1 (.slice PA P.length pc)).set 2 (.slice OA O.length oc))
    have s0 := hzf.cell 0
    have s1 := hzf.cell 1
    have s2 := hzf.cell 2
    refine bodyPost_ret (v := .agg #[.slice (some ⟨gz, 0, none⟩) S.length c', .slice PA P.length pc, .slice OA O.length oc]) ?_ rfl ⟨_, _, rfl, ?_, ?_⟩
    · simp [results, Try.results53, go_sem, s0, s1, s2]
    · exact ((HB3.out.setCell (p := ⟨w.heap.size + 1, 0, none⟩) (by show w.heap.size ≤ w.heap.size + 1; omega) _).setCell (p := ⟨w.heap.size + 1, 1, none⟩) (by show w.heap.size ≤ w.heap.size + 1; omega) _).setCell (p := ⟨w.heap.size + 1, 2, none⟩) (by show w.heap.size ≤ w.heap.size + 1; omega) _
    · have hnz : (Value.slice (some ⟨gz, 0, none⟩) S.length c').ownBlock ≠ some (w.heap.size + 1) := fun e => by
        have := Hgz.out
        have := HWs.out
        simp only [Value.ownBlock, Option.some.injEq] at e
        omega
      have h9 := own_other (own_other (own_other Hst.out ⟨w.heap.size + 1, 0, none⟩ hnz (.slice (some ⟨gz, 0, none⟩) S.length c')) ⟨w.heap.size + 1, 1, none⟩ hnz (.slice PA P.length pc)) ⟨w.heap.size + 1, 2, none⟩ hnz (.slice OA O.length oc)
      have hms : (S.map (Value.int .i64)).set g (.int .i64 (x + d)) = (S.set g (x + d)).map (Value.int .i64) := by rw [List.map_set]
      rw [hms] at h9
      obtain ⟨A', c'', he, hsl⟩ := own_slI h9 (by simp)
      simp only [Value.slice.injEq] at he
      obtain ⟨rfl, -, rfl⟩ := he
      exact hsl
/-- A shop with another stock, as a call returns it. -/
def ShG (n : Nat) (xs : List Int) (p o v : Value) (W : World) : Prop := ∃ A c, v = .agg #[.slice A n c, p, o] ∧ Sl 1 encI W W.heap.size A n c xs
theorem ShG.stab {n : Nat} {xs : List Int} {p o : Value} : ∀ v W W', Gr W W' → ShG n xs p o v W → ShG n xs p o v W' := fun _ _ _ hG ⟨A, c, h1, h2⟩ => ⟨A, c, h1, h2.later hG⟩
theorem shOk_list {n : Nat} {P : List Int} {O : List Od} {M : Nat → Int} {b : Int} (h : ShOk n P O M b) {xs : List Int} (hx : stockM xs = M) : ShOk n P O (stockM xs) b := by rw [hx]; exact h
section
variable (SA : Option Addr) (sn sc : Nat) (PA : Option Addr) (pn pc : Nat) (OA : Option Addr) (on oc : Nat) (S P : List Int) (O : List Od) (w : World) (hs : ShopIn w w.heap.size SA sn sc PA pn pc OA on oc S P O)
include hs
set_option maxRecDepth 100000 in
set_option maxHeartbeats 4000000 in
theorem refWorth_any (g : Int) : Calls Try.prog 36 #[.agg #[.slice SA sn sc, .slice PA pn pc, .slice OA on oc], .int .i64 g] w fun e w' => e = .returned (.tuple #[.int .i64 (worthR S P O g).1, .int .i64 (worthR S P O g).2]) ∧ Below w.heap.size w w' := by
  obtain rfl := hs.stk.len
  obtain rfl := hs.prc.len
  obtain rfl := hs.ord.len
  have HG0 := Lib.hid (GW.start hs)
  obtain ⟨g0, g1, g2, g3⟩ := HG0.out.cells
  unfold worthR
  have Ho := Lib.hid (fun W (h : ShopIn W W.heap.size SA S.length sc PA P.length pc OA O.length oc S P O) => refShop_any SA S.length sc PA P.length pc OA O.length oc S P O W h)
  by_cases he : shopE S P O = 0
  case neg =>
    rw [if_pos he]
    obtain ⟨q, hq⟩ : ∃ q, shopE S P O = q := ⟨_, rfl⟩
    rw [hq] at Ho he ⊢
    have d1 : (q != 0) = true := by simpa using he
    clear hs hq he
    go_enter Try.func36, Try.ntmps36
    go_wp2_with fail
    refine (Ho.out _ HG0.out.sh).mono ?_
    rintro e w1 ⟨rfl, hb⟩
    have HG1 := Lib.hid (HG0.out.later hb)
    clear hb HG0 g0 g1 g2 g3
    obtain ⟨g0, g1, g2, g3⟩ := HG1.out.cells
    go_wp2_with fail
    refine (Ho.out _ HG1.out.sh).mono ?_
    rintro e w2 ⟨rfl, hb⟩
    have HG2 := Lib.hid (HG1.out.later hb)
    clear hb HG1 g0 g1 g2 g3
    obtain ⟨g0, g1, g2, g3⟩ := HG2.out.cells
    go_wp2
    go_ret2
    exact ⟨rfl, HG2.out.bel⟩
  rw [if_neg (fun h => h he)]
  have hF := fine_of he
  have Hc := Lib.hid (fun W (h : ShopIn W W.heap.size SA S.length sc PA P.length pc OA O.length oc S P O) => refCan_any SA S.length sc PA P.length pc OA O.length oc S P O W h he)
  rw [he] at Ho
  have n5 := hF.n5
  cases hd : decide (g < 0) with
  | true =>
    rw [(inR_no _ _ _).2 (.inl (of_decide_eq_true hd))]
    clear hs he hF
    go_enter Try.func36, Try.ntmps36
    go_wp2_with fail
    refine (Ho.out _ HG0.out.sh).mono ?_
    rintro e w3 ⟨rfl, hb⟩
    have HG1 := Lib.hid (HG0.out.later hb)
    clear hb HG0 g0 g1 g2 g3
    obtain ⟨g0, g1, g2, g3⟩ := HG1.out.cells
    go_wp2
    go_ret2
    exact ⟨rfl, HG1.out.bel⟩
  | false =>
  cases hd2 : decide ((S.length : Int) ≤ g) with
  | true =>
    rw [(inR_no _ _ _).2 (.inr (by have := of_decide_eq_true hd2; omega))]
    clear hs he hF
    go_enter Try.func36, Try.ntmps36
    go_wp2_with fail
    refine (Ho.out _ HG0.out.sh).mono ?_
    rintro e w4 ⟨rfl, hb⟩
    have HG1 := Lib.hid (HG0.out.later hb)
    clear hb HG0 g0 g1 g2 g3
    obtain ⟨g0, g1, g2, g3⟩ := HG1.out.cells
    go_wp2
    go_ret2
    exact ⟨rfl, HG1.out.bel⟩
  | false =>
  have a1 := of_decide_eq_false hd
  have a2 := of_decide_eq_false hd2
  rw [(inR_iff _ _ _).2 ⟨by omega, by omega⟩, if_pos rfl]
  obtain ⟨k, rfl⟩ : ∃ k : Nat, g = (k : Int) := ⟨g.toNat, by omega⟩
  rw [show ((k : Int)).toNat = k by omega]
  have i1 : (0 : Int) ≤ (k : Int) := by omega
  have i2 : (k : Int) < (S.length : Int) := by omega
  have hkn : k < S.length := by omega
  clear a1 a2 hd hd2
  cases hc : canB S.length O (stockM S) with
  | false =>
    rw [filE_no he hc]
    rw [hc] at Hc
    rw [if_pos (by decide)]
    clear hs he hF hc hkn
    go_enter Try.func36, Try.ntmps36
    go_wp2_with fail
    refine (Ho.out _ HG0.out.sh).mono ?_
    rintro e w5 ⟨rfl, hb⟩
    have HG1 := Lib.hid (HG0.out.later hb)
    clear hb HG0 g0 g1 g2 g3
    obtain ⟨g0, g1, g2, g3⟩ := HG1.out.cells
    go_wp2_with fail
    refine (Hc.out _ HG1.out.sh).mono ?_
    rintro e w6 ⟨rfl, hb⟩
    have HG2 := Lib.hid (HG1.out.later hb)
    clear hb HG1 g0 g1 g2 g3
    obtain ⟨g0, g1, g2, g3⟩ := HG2.out.cells
    go_wp2
    go_ret2
    exact ⟨rfl, HG2.out.bel⟩
  | true =>
  rw [filE_ok he hc]
  rw [hc] at Hc
  rw [if_neg (by decide)]
  have Hl := Lib.hid (fun W (h : ShopIn W W.heap.size SA S.length sc PA P.length pc OA O.length oc S P O) => refLeastOf_any SA S.length sc PA P.length pc OA O.length oc S P O W h hF.ok (by omega))
  have Hw := Lib.hid (fun W (h : ShopIn W W.heap.size SA S.length sc PA P.length pc OA O.length oc S P O) => refWith_any SA S.length sc PA P.length pc OA O.length oc S P O k 1 W h hkn (by omega) (fun x hx => by have := hF.stk x hx; omega) (by omega))
  have hlen : (S.set k (S.getD k 0 + 1)).length = S.length := by simp
  have hok2 : ShOk S.length P O (stockM (S.set k (S.getD k 0 + 1))) 51 := shOk_list (hF.ok.upd k 1 (by omega)) (stockM_set hkn 1)
  have Hl2 := Lib.hid (fun A c W (hx : Sl 1 encI W W.heap.size A S.length c (S.set k (S.getD k 0 + 1))) (h : ShopIn W W.heap.size SA S.length sc PA P.length pc OA O.length oc S P O) => refLeastOf_any A S.length c PA P.length pc OA O.length oc (S.set k (S.getD k 0 + 1)) P O W ⟨hx, h.prc, h.ord⟩ (by rw [hlen]; exact hok2) (by omega))
  rw [hlen, stockM_set hkn] at Hl2
  have hb1 := leV_bound hF.ok
  have hb2 := leV_bound hok2
  rw [stockM_set hkn] at hb2
  have hwv : woV S.length P O (stockM S) k = leV S.length P O (stockM S) - leV S.length P O (Gr9.upd (stockM S) k (stockM S k + 1)) := rfl
  have i3 : IntKind.i64.wrap (leV S.length P O (stockM S) - leV S.length P O (Gr9.upd (stockM S) k (stockM S k + 1))) = leV S.length P O (stockM S) - leV S.length P O (Gr9.upd (stockM S) k (stockM S k + 1)) := by rw [IntKind.wrap_i64]; omega
  rw [hwv]
  generalize leV S.length P O (stockM S) = v1 at *
  generalize leV S.length P O (Gr9.upd (stockM S) k (stockM S k + 1)) = v2 at *
  generalize S.set k (S.getD k 0 + 1) = X at *
  clear hs he hF hc hkn hlen hok2 hb1 hb2 hwv
  go_enter Try.func36, Try.ntmps36
  go_wp2_with fail
  refine (Ho.out _ HG0.out.sh).mono ?_
  rintro e w7 ⟨rfl, hb⟩
  have HG1 := Lib.hid (HG0.out.later hb)
  clear hb HG0 g0 g1 g2 g3
  obtain ⟨g0, g1, g2, g3⟩ := HG1.out.cells
  go_wp2_with fail
  refine (Hc.out _ HG1.out.sh).mono ?_
  rintro e w8 ⟨rfl, hb⟩
  have HG2 := Lib.hid (HG1.out.later hb)
  clear hb HG1 g0 g1 g2 g3
  obtain ⟨g0, g1, g2, g3⟩ := HG2.out.cells
  go_wp2_with fail
  refine dag 9 (by kernel_rfl) (by kernel_rfl) (.is ?_ :: .is ?_ :: .is ?_ :: .is ?_ :: .like (ShG S.length X (.slice PA P.length pc) (.slice OA O.length oc)) :: .is (.int .i64 v2) :: .is ?_ :: .is ?_ :: .is ?_ :: []) rfl ?st1 ?ob1
  case st1 => repeat (first | exact stab_nil | refine stab_is ?_ | refine stab_like ShG.stab ?_)
  case ob1 =>
    intro env V hG
    obtain ⟨hc, hf⟩ := bcell hG
    have HG9 := Lib.hid (HG2.out.later hG)
    iterate 1 (refine obls_is ?_ ?_; unfold doesAt; go_simp; (try go_bits); (first | (refine ⟨brefl _, ?_⟩; rfl) | rfl); intro K hK; go_simp; refine hK _ ?_; clear hK K)
    refine obls_is ?_ ?_
    · unfold doesAt
      go_simp
      refine (Hl.out _ HG9.out.sh).mono ?_
      rintro e w1 ⟨rfl, hb1⟩
      (refine ⟨?_, hb1⟩; rfl)
    intro K hK
    go_simp
    refine hK _ ?_
    clear hK K
    iterate 2 (refine obls_is ?_ ?_; unfold doesAt; go_simp; (try go_bits); (first | (refine ⟨brefl _, ?_⟩; rfl) | rfl); intro K hK; go_simp; refine hK _ ?_; clear hK K)
    refine obls_like (fun _ => ?_) ?_
    · unfold doesAt
      go_simp
      refine (Hw.out _ HG9.out.sh).mono ?_
      rintro e w3 ⟨A, c, rfl, hb3, hsl⟩
      exact ⟨_, rfl, hb3, A, c, rfl, hsl⟩
    intro K hK
    go_simp
    refine hK _ ?_
    clear hK K
    refine obls_isL (fun hl => ?_) ?_
    · obtain ⟨A, c, hE, hsl⟩ : ShG S.length X (.slice PA P.length pc) (.slice OA O.length oc) (env 4) V := hl ⟨4, .data⟩ (by simp) rfl
      have Hsl := Lib.hid hsl
      clear hsl
      unfold doesAt
      go_simp
      refine (Hl2.out A c _ Hsl.out HG9.out.sh).mono ?_
      rintro e w3 ⟨rfl, hb3⟩
      exact ⟨rfl, hb3⟩
    intro K hK
    go_simp
    refine hK _ ?_
    clear hK K
    repeat (refine obls_is ?_ ?_; unfold doesAt; go_simp; (try go_bits); (first | (refine ⟨brefl _, ?_⟩; rfl) | rfl); intro K hK; go_simp; refine hK _ ?_; clear hK K)
    refine obls_nil (fun _ => ?_)
    clear hc hf hG g0 g1 g2 g3
    go_wp2
    go_ret2
    exact ⟨rfl, HG9.out.bel⟩
end
/-- A stock to which so many numbers of a list have been added. -/
def addLs (S L : List Int) : Nat → List Int
  | 0 => S
  | i + 1 => (addLs S L i).set i ((addLs S L i).getD i 0 + L.getD i 0)
theorem addLs_len (S L : List Int) : ∀ i, (addLs S L i).length = S.length
  | 0 => rfl
  | i + 1 => by rw [addLs, List.length_set, addLs_len S L i]
theorem addLs_stock (S L : List Int) : ∀ i, i ≤ S.length → stockM (addLs S L i) = addM (stockM S) (L.take i)
  | 0, _ => by rw [addM_zero]; rfl
  | i + 1, h => by
    rw [addLs, stockM_set (by rw [addLs_len]; omega), addLs_stock S L i (by omega), ← addM_succ]
theorem addLs_bound {S L : List Int} (hS : ∀ x ∈ S, 0 ≤ x ∧ x ≤ 50) (ho : ∀ j, j < L.length → 0 ≤ L.getD j 0 ∧ L.getD j 0 ≤ 50) : ∀ i, i ≤ S.length → ∀ x ∈ addLs S L i, 0 ≤ x ∧ x ≤ 100 := fun i hi x hx => by
  obtain ⟨j, hj⟩ := List.getElem?_of_mem hx
  have h1 := stockM_at hj
  rw [addLs_stock S L i hi] at h1
  have h2 := stockM_bound hS (by omega) j
  unfold addM at h1
  rw [take_getD] at h1
  split at h1
  · by_cases c : j < L.length
    · have := ho j c; omega
    · rw [List.getD_eq_getElem?_getD, List.getElem?_eq_none (by omega)] at h1
      simp at h1; omega
  · omega
/-- While more sheets are added. -/
structure XW (W : World) (B : Nat) (n : Nat) (PA : Option Addr) (pn pc : Nat) (OA : Option Addr) (on oc : Nat) (X : List Int) : Prop where
  ex : ∃ A c, Blk W B 25 #[.slice A n c, .slice PA pn pc, .slice OA on oc] ∧ Sl 1 encI W W.heap.size A n c X
theorem XW.later {W W' : World} {B : Nat} {n : Nat} {PA : Option Addr} {pn pc : Nat} {OA : Option Addr} {on oc : Nat} {X : List Int} (h : XW W B n PA pn pc OA on oc X) (hb : Below W.heap.size W W') : XW W' B n PA pn pc OA on oc X := by
  obtain ⟨A, c, h1, h2⟩ := h.ex
  exact ⟨A, c, h1.later hb, h2.later hb⟩
end Go.Proofs.Ytmfiggbobaihcaa
