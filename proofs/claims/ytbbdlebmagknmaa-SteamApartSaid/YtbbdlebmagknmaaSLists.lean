/- steam's lists: all lists of numbers that fit. -/
import Derived.Test.YtbbdlebmagknmaaSFill
namespace Go.Proofs.Ytbbdlebmagknmaa
open Go.RowKit Go.Shelf

theorem info_ints : (Try.prog.info? 44).map (fun i => (i.zero, i.size, i.bytes)) = some (some (.slice none 0 0), 1, 24) := by kernel_rfl
theorem und_intss : Try.prog.underlying 90 = some (.slice 44) := by kernel_rfl
/-- The lists that go on with one, those that begin with a list behind it. -/
def goL (fits : List Nat → Bool) (n : Nat) : Nat → List Nat → List (List Nat)
  | 0, _ => []
  | f + 1, l => (if fits (l ++ [n - (f + 1)]) then (l ++ [n - (f + 1)]) :: goL fits n f (l ++ [n - (f + 1)]) else []) ++ goL fits n f l
theorem goL_len (fits : List Nat → Bool) (n : Nat) : ∀ (f : Nat) (l : List Nat), (goL fits n f l).length + 1 ≤ 2 ^ f
  | 0, _ => by simp [goL]
  | f + 1, l => by
    have h1 := goL_len fits n f (l ++ [n - (f + 1)])
    have h2 := goL_len fits n f l
    unfold goL
    rw [List.length_append, Nat.pow_succ]
    split
    · simp only [List.length_cons]; omega
    · simp only [List.length_nil]; omega
theorem below_none {W W' : World} (h : W.grownBy W' none) : Below W.heap.size W W' := ⟨h.os, h.tape, h.output, h.size, fun k hk => h.block k hk (by simp)⟩
/-- A list of numbers in a row of the call's own. -/
def ListV (W : World) (base : Nat) (l : List Nat) (v : Value) : Prop := W.ownsRow base 3 1 v l.length (l.map encN)
theorem ListV.snoc {W : World} {B base : Nat} {l : List Nat} {i : Nat} {v : Value} (h : W.ownsRow B 3 1 v (l.length + 1) (l.map encN ++ [.int .i64 (i : Int)])) (hb : base ≤ B) : ListV W base (l ++ [i]) v := by
  have he : l.map encN ++ [.int .i64 (i : Int)] = (l ++ [i]).map encN := by rw [List.map_append]; rfl
  rw [he] at h
  unfold ListV
  simpa using own_low h hb
/-- The lists so far: their row, and each one's. -/
structure OutV (W : World) (base : Nat) (os : List (List Nat)) (ov : Value) (vs : List Value) : Prop where
  len : vs.length = os.length
  own : W.ownsRow base 44 1 ov vs.length vs
  rows : ∀ (i : Nat) (l : List Nat), os[i]? = some l → ∃ v, vs[i]? = some v ∧ ListV W base l v
/-- What stands while lists are made: the number of logs, the test, the lists, the function. -/
structure LS (base : Nat) (w0 W : World) (B2 B3 B5 B6 n : Nat) (fv : Value) (os : List (List Nat)) : Prop where
  bel : Below base w0 W
  b2 : Blk W B2 3 #[.int .i64 (n : Int)]
  b3 : Blk W B3 88 #[fv]
  b6 : Blk W B6 113 #[.func (.func 87) #[] #[.pointer (some ⟨B2, 0, none⟩), .pointer (some ⟨B3, 0, none⟩), .pointer (some ⟨B5, 0, none⟩), .pointer (some ⟨B6, 0, none⟩)]]
  ge : base ≤ B5
  out : ∃ ov vs, Blk W B5 90 #[ov] ∧ OutV W base os ov vs
/-- Lists lie as they lay. -/
def KL (base : Nat) (W W' : World) : Prop := W.heap.size ≤ W'.heap.size ∧ ∀ l v, ListV W base l v → ListV W' base l v
section
variable {base : Nat} {w0 W W' : World} {B2 B3 B5 B6 n : Nat} {fv : Value} {os : List (List Nat)}
theorem KL.refl (W : World) : KL base W W := ⟨Nat.le_refl _, fun _ _ h => h⟩
theorem KL.trans {A B C : World} (h : KL base A B) (k : KL base B C) : KL base A C := ⟨Nat.le_trans h.1 k.1, fun l v hv => k.2 l v (h.2 l v hv)⟩
theorem KL.of_below (h : Below W.heap.size W W') : KL base W W' := ⟨h.size, fun _ _ hv => own_later hv h⟩
theorem LS.later (h : LS base w0 W B2 B3 B5 B6 n fv os) (hb : Below W.heap.size W W') : LS base w0 W' B2 B3 B5 B6 n fv os := by
  obtain ⟨ov, vs, h1, h2⟩ := h.out
  have hbz := h1.lt
  have hge := h.ge
  refine ⟨h.bel.trans ⟨hb.os, hb.tape, hb.output, hb.size, fun k hk => hb.block k (by omega)⟩, h.b2.later hb, h.b3.later hb, h.b6.later hb, h.ge, ov, vs, h1.later hb, h2.len, own_later h2.own hb, fun i l hi => ?_⟩
  obtain ⟨v, h3, h4⟩ := h2.rows i l hi
  exact ⟨v, h3, own_later h4 hb⟩
/-- One more list. -/
theorem LS.push (h : LS base w0 W B2 B3 B5 B6 n fv os) {ov ov' : Value} {vs : List Value} (h1 : Blk W B5 90 #[ov]) (h2 : OutV W base os ov vs) {l : List Nat} {v : Value} (hl : ListV W base l v) (hg : W.grownBy W' ov.ownBlock) (ho : W'.ownsRow base 44 1 ov' (vs.length + 1) (vs ++ [v])) :
    LS base w0 (W'.setCell ⟨B5, 0, none⟩ ov') B2 B3 B5 B6 n fv (os ++ [l]) ∧ KL base W (W'.setCell ⟨B5, 0, none⟩ ov') := by
  have hnb : ∀ {b : Nat} {t : TypeId} {cs : Array Value}, Blk W b t cs → t ≠ 44 → ov.ownBlock ≠ some b := fun hb ht => hb.notRow h2.own ht
  have n2 : B5 ≠ B2 := (h1.apart h.b2 (by decide))
  have n3 : B5 ≠ B3 := (h1.apart h.b3 (by decide))
  have n6 : B5 ≠ B6 := (h1.apart h.b6 (by decide))
  have hlb : ∀ l v, ListV W base l v → ListV (W'.setCell ⟨B5, 0, none⟩ ov') base l v := fun l v hv => by
    have h5 : ListV W' base l v := own_grown hv hg (own_apart hv h2.own (by decide))
    exact own_other h5 _ ((h1.grown hg (hnb h1 (by decide))).notRow h5 (by decide)) _
  have hs1 : (W'.setCell ⟨B5, 0, none⟩ ov').heap.size = W'.heap.size := by simp [World.setCell]
  refine ⟨⟨?_, (h.b2.grown hg (hnb h.b2 (by decide))).other n2 _, (h.b3.grown hg (hnb h.b3 (by decide))).other n3 _, (h.b6.grown hg (hnb h.b6 (by decide))).other n6 _, h.ge, ov', vs ++ [v], ?_, ?_, ?_, fun i l' hi => ?_⟩, by rw [hs1]; exact hg.size, hlb⟩
  · have hge := h.ge
    refine (h.bel.trans ⟨hg.os, hg.tape, hg.output, hg.size, fun k hk => hg.block k (by have := h1.lt; omega) (fun e => by have := own_base h2.own _ e.symm; omega)⟩).setCell (by show base ≤ B5; omega) _
  · have h5 := (h1.grown hg (hnb h1 (by decide))).set 0 ov'
    simpa using h5
  · simp [h2.len]
  · have h5 : W'.ownsRow base 44 1 ov' (vs ++ [v]).length (vs ++ [v]) := by simpa using ho
    exact own_other h5 _ ((h1.grown hg (hnb h1 (by decide))).notRow h5 (by decide)) _
  · by_cases e : i < os.length
    · rw [List.getElem?_append_left e] at hi
      obtain ⟨u, h3, h4⟩ := h2.rows i l' hi
      exact ⟨u, by rw [List.getElem?_append_left (by rw [h2.len]; exact e)]; exact h3, hlb _ _ h4⟩
    · rw [List.getElem?_append_right (by omega)] at hi
      obtain ⟨e1, rfl⟩ : i - os.length = 0 ∧ l = l' := by
        cases hj : i - os.length with
        | zero => rw [hj] at hi; simpa using hi
        | succ j => rw [hj] at hi; simp at hi
      refine ⟨v, ?_, hlb _ _ hl⟩
      rw [List.getElem?_append_right (by rw [h2.len]; omega), h2.len, e1]
      rfl
end

set_option maxRecDepth 100000 in
set_option maxHeartbeats 8000000 in
theorem goOn_any (base : Nat) (w0 : World) (B2 B3 B5 B6 n : Nat) (gf : Nat) (lb : Array Value) (ef : ∀ args w, (callFunc gf args).run Try.prog w = .ok (.enter gf args) w) (fits : List Nat → Bool) (hn : n ≤ 10)
    (hf : ∀ l v W, Below base w0 W → ListV W base l v → (∀ x ∈ l, x < n) → l.length ≤ n → Calls Try.prog gf (#[v] ++ lb) W fun e W' => e = .returned (.bool (fits l)) ∧ Below W.heap.size W W') :
    ∀ (f : Nat) (l : List Nat) (v : Value) (W : World) (os : List (List Nat)), f ≤ n → l.length + f ≤ n → (∀ x ∈ l, x < n) → LS base w0 W B2 B3 B5 B6 n (.func (.func gf) #[] lb) os → ListV W base l v → os.length + 2 ^ f ≤ 4000 →
      Calls Try.prog 87 #[v, .int .i64 ((n - f : Nat) : Int), .pointer (some ⟨B2, 0, none⟩), .pointer (some ⟨B3, 0, none⟩), .pointer (some ⟨B5, 0, none⟩), .pointer (some ⟨B6, 0, none⟩)] W fun e W' => e = .returned (.tuple #[]) ∧ LS base w0 W' B2 B3 B5 B6 n (.func (.func gf) #[] lb) (os ++ goL fits n f l) ∧ KL base W W' := by
  intro f
  induction f using Nat.strongRecOn with
  | _ f ih =>
  intro l v W os hfn hlf hlx hL hl hos
  have IH := Lib.hid ih
  have Hf := Lib.hid hf
  have HL := Lib.hid hL
  have Hl := Lib.hid hl
  have Hlx := Lib.hid hlx
  clear ih hf hL hl hlx
  obtain ⟨fr, hfr⟩ : ∃ fr, n - f = fr := ⟨_, rfl⟩
  rw [hfr]
  have Hfr := Lib.hid hfr
  clear hfr
  go_enter Try.func87, Try.ntmps87
  go_wp2_with fail
  refine loop_n (fun m a V => a.defers = [] ∧ ∃ (i : Nat) (os' : List (List Nat)), m ≤ f ∧ i + m = n ∧ Hid (os' ++ goL fits n m l = os ++ goL fits n f l) ∧ os'.length + 2 ^ m ≤ 4000 ∧ LS base w0 V B2 B3 B5 B6 n (.func (.func gf) #[] lb) os' ∧ KL base W V ∧ Fits (some (v) :: none :: some (.pointer (some ⟨B2, 0, none⟩)) :: some (.pointer (some ⟨B3, 0, none⟩)) :: some (.pointer (some ⟨B5, 0, none⟩)) :: some (.pointer (some ⟨B6, 0, none⟩)) :: none :: none :: some (.int .i64 (i : Nat)) :: none :: none :: none :: none :: none :: none :: none :: none :: none :: none :: none :: none :: none :: none :: none :: none :: none :: none :: none :: none :: none :: none :: none :: none :: none :: none :: none :: none :: []) a.tmps.toList) f ?_ ?_
  · refine ⟨rfl, fr, os, Nat.le_refl _, by have := Hfr.out; omega, Lib.hid rfl, hos, HL.out, KL.refl _, ?_⟩
    repeat (first | exact fits_nil | refine fits_none ?_ | refine fits_some ?_)
  clear HL
  intro m a V hI K hK
  obtain ⟨hds, i, os', hmf, him, hos', hol, hL, hkl, hfit⟩ := hI
  obtain ⟨f1, hf1⟩ := fits_act hfit
  rw [hds] at hf1
  subst hf1
  clear hfit hds
  simp only [fillP, Nat.reduceAdd]
  have b0 := hL.b2.cell 0
  have b1 := hL.b2.lt
  have c0 := hL.b3.cell 0
  have c1 := hL.b3.lt
  have HL := Lib.hid hL
  have Hkl := Lib.hid hkl
  cases m with
  | zero =>
    obtain rfl : i = n := by omega
    have HE := Lib.hid (show os' = os ++ goL fits i f l by rw [← hos'.out]; simp [goL])
    clear hL hkl hK hos'
    go_wp2
    go_end0
    exact ⟨rfl, by rw [← HE.out]; exact HL.out, Hkl.out⟩
  | succ m =>
    have i1 : (i : Int) < (n : Int) := by omega
    have i2 : (0 : Int) ≤ (i : Int) := by omega
    have i3 : IntKind.i64.wrap ((i : Int) + 1) = (i : Int) + 1 := by rw [IntKind.wrap_i64]; omega
    have hlv := hkl.2 l v Hl.out
    have hlen : l.length ≤ 10 := by omega
    have hnm : n - (m + 1) = i := by omega
    have hpos : 1 ≤ 2 ^ m := Nat.one_le_two_pow
    have hpow : 2 ^ (m + 1) = 2 ^ m * 2 := Nat.pow_succ 2 m
    have hst : goL fits n (m + 1) l = (if fits (l ++ [i]) then (l ++ [i]) :: goL fits n m (l ++ [i]) else []) ++ goL fits n m l := by
      conv => lhs; unfold goL
      rw [hnm]
    have Hos := Lib.hid hos'.out
    rw [hst] at Hos
    obtain ⟨i0, hi0, hz0, hz1, hz2⟩ := info_parts info_int
    have hal := balloc (brefl V) (.cells #[.int .i64 (i : Int)] 3)
    have HL1 := Lib.hid (hL.later hal)
    have Hkl1 := Lib.hid (hkl.trans (KL.of_below (base := base) hal))
    have Hlv1 := Lib.hid (own_later hlv hal)
    have hbV : base ≤ V.heap.size := by have := hL.ge; obtain ⟨_, _, h5, _⟩ := hL.out; have := h5.lt; omega
    have HbV := Lib.hid (show base ≤ (V.alloc (.cells #[.int .i64 (i : Int)] 3)).heap.size by simp; omega)
    have Hnx := Lib.hid (show ∀ x ∈ l ++ [i], x < n from fun x hx => by
      rcases List.mem_append.1 hx with h6 | h6
      · exact Hlx.out x h6
      · obtain rfl := List.mem_singleton.1 h6; omega)
    rcases hlv.2 with ⟨rfl, hl0⟩ | ⟨g0, cap, cur, rfl, hg0, hcur, hcc, _, hsz, htk⟩
    · have Hle := Lib.hid (show l = [] from List.eq_nil_of_length_eq_zero hl0)
      clear hL hkl hlv hos' hst hnm HL hl0
      go_wp2_with (at_builtin; refine wpList_append_grows _ rfl _ _ 44 rfl 3 i0 (.int .i64 0) 1 8 und_ints hi0 hz0 hz1 hz2 rfl (by decide) _ 0 0 (([] : List Nat).map encN) rfl (by simp) (by simp) (fun b hb => by cases hb) ⟨V.heap.size, 0, none⟩ 1 1 [.int .i64 (i : Int)] rfl rfl (one_new _ _ _) (by simp [Value.oneCell']) (by omega) (by simp only [maxLen]; omega) (by omega) ?_; intro v' W3 hown' hgr; obtain ⟨gg, cap', rfl⟩ := own_succ hown'; have HF3 := Lib.hid (HL1.out.later (below_none hgr)); have HK3 := Lib.hid (Hkl1.out.trans (KL.of_below (base := base) (below_none hgr))); have Hnv := Lib.hid (show ListV W3 base (l ++ [i]) _ from by rw [Hle.out]; exact ListV.snoc (l := []) hown' HbV.out); have d0 := HF3.out.b3.cell 0; have d1 := HF3.out.b3.lt; clear hown' hgr)
      refine (Hf.out (l ++ [i]) _ W3 HF3.out.bel Hnv.out Hnx.out (by simp; omega)).mono ?_
      rintro e W4 ⟨rfl, hb4⟩
      have HF4 := Lib.hid (HF3.out.later hb4)
      have HK4 := Lib.hid (HK3.out.trans (KL.of_below (base := base) hb4))
      have Hnv4 := Lib.hid (show ListV W4 base (l ++ [i]) _ from own_later Hnv.out hb4)
      clear hb4 d0 d1 HF3 HK3 Hnv
      cases hq : fits (l ++ [i])
      rotate_left
      · have HT := Lib.hid hq
        clear hq
        rw [HT.out, if_pos rfl] at Hos
        obtain ⟨ov, vs, ho1, ho2⟩ := HF4.out.out
        have hal4 := balloc (brefl W4) (.cells #[.slice (some ⟨gg, 0, none⟩) (0 + 1) cap'] 44)
        have hF5 := HF4.out.later hal4
        have ho3 := ho1.later hal4
        have ho4 : OutV (W4.alloc (.cells #[.slice (some ⟨gg, 0, none⟩) (0 + 1) cap'] 44)) base os' ov vs := ⟨ho2.len, own_later ho2.own hal4, fun j l' hj => by
          obtain ⟨u, h6, h7⟩ := ho2.rows j l' hj
          exact ⟨u, h6, own_later h7 hal4⟩⟩
        have Hnv5 := Lib.hid (show ListV (W4.alloc (.cells #[.slice (some ⟨gg, 0, none⟩) (0 + 1) cap'] 44)) base (l ++ [i]) (.slice (some ⟨gg, 0, none⟩) (0 + 1) cap') from own_later Hnv4.out hal4)
        have HK5 := Lib.hid (HK4.out.trans (KL.of_below (base := base) hal4))
        have Hpush := Lib.hid (fun (W5 : World) (ov' : Value) (hg : (W4.alloc (.cells #[.slice (some ⟨gg, 0, none⟩) (0 + 1) cap'] 44)).grownBy W5 ov.ownBlock) (ho : W5.ownsRow base 44 1 ov' (vs.length + 1) (vs ++ [.slice (some ⟨gg, 0, none⟩) (0 + 1) cap'])) => hF5.push ho3 ho4 Hnv5.out hg ho)
        have Hgrow := Lib.hid (fun (W5 : World) (hg : (W4.alloc (.cells #[.slice (some ⟨gg, 0, none⟩) (0 + 1) cap'] 44)).grownBy W5 ov.ownBlock) => ho3.grown hg (ho3.notRow ho4.own (by decide)))
        have hvl : vs.length ≤ 4000 := by rw [ho2.len]; omega
        have hb4 : base ≤ (W4.alloc (.cells #[.slice (some ⟨gg, 0, none⟩) (0 + 1) cap'] 44)).heap.size := by have := hF5.ge; have := ho3.lt; omega
        have e0 := ho1.cell 0
        have e1 := ho1.lt
        have Ho4 := Lib.hid ho4.own
        obtain ⟨j0, hj0, hjz0, hjz1, hjz2⟩ := info_parts info_ints
        have IHm := IH.out m (by omega) (l ++ [i]) (.slice (some ⟨gg, 0, none⟩) (0 + 1) cap')
        rw [show (((n - m : Nat)) : Int) = (i : Int) + 1 by omega] at IHm
        have HI := Lib.hid IHm
        clear ho1 ho2 hF5 ho3 ho4 hal4 IHm HF4 HK4 Hnv4
        go_wp2_with (at_builtin; refine wpList_append_own _ rfl _ _ 90 rfl base 44 j0 (.slice none 0 0) 1 24 und_intss hj0 hjz0 hjz1 hjz2 rfl (by decide) ov vs.length vs rfl Ho4.out ⟨W4.heap.size, 0, none⟩ 1 1 [.slice (some ⟨gg, 0, none⟩) (0 + 1) cap'] rfl rfl (one_new _ _ _) (by simp [Value.oneCell']) (by simp only [maxLen]; omega) (by omega) hb4 ?_; intro ov' W5 hown5 hgr5 _; obtain ⟨g5, cap5, rfl⟩ := own_succ hown5; have hp5 := Hpush.out W5 _ hgr5 hown5; have ho5 := Hgrow.out W5 hgr5; have m0 := ho5.cell 0; have m1 := ho5.lt; have m2 := ho5.frozen 0; have HP5 := Lib.hid hp5; have q0 := hp5.1.b6.cell 0; have q1 := hp5.1.b6.lt; clear hown5 hgr5 hp5 ho5)
        refine (HI.out _ (os' ++ [l ++ [i]]) (by omega) (by simp; omega) Hnx.out HP5.out.1 (HP5.out.2.2 _ _ Hnv5.out) (by simp; omega)).mono ?_
        rintro e W6 ⟨rfl, hL6, hK6⟩
        have HL6 := Lib.hid hL6
        have HK6 := Lib.hid ((HK5.out.trans HP5.out.2).trans hK6)
        clear hL6 hK6 m0 m1 m2 q0 q1 e0 e1 HP5
        have hgl := goL_len fits n m (l ++ [i])
        go_wp2
        refine hK _ _ m (by omega) ⟨rfl, i + 1, _, by omega, by omega, Lib.hid (by rw [← Hos.out]; simp), ?_, HL6.out, HK6.out, ?_⟩
        · rw [List.length_append, List.length_append]; simp only [List.length_cons, List.length_nil]; omega
        · repeat (first | exact fits_nil | refine fits_none ?_ | refine fits_some ?_)
      · have HT := Lib.hid hq
        clear hq
        rw [HT.out, if_neg (by simp)] at Hos
        go_wp2
        refine hK _ _ m (by omega) ⟨rfl, i + 1, os', by omega, by omega, Lib.hid (by rw [← Hos.out]; simp), by omega, HF4.out, HK4.out, ?_⟩
        repeat (first | exact fits_nil | refine fits_none ?_ | refine fits_some ?_)
    · have i5 : (l.length : Int) ≤ (cap : Int) := by omega
      have Hold := Lib.hid (show ∀ b, (some ⟨g0, 0, none⟩ : Option Addr) = some b → ∀ j u, (l.map encN)[j]? = some u → (V.alloc (.cells #[.int .i64 (i : Int)] 3)).cell? (b.add j) = some u from fun b hb j u hu => by
        cases hb
        have hadd : (⟨g0, 0, none⟩ : Addr).add j = ⟨g0, j, none⟩ := by unfold Addr.add; split <;> simp_all
        rw [hadd]
        rw [← htk] at hu
        have h5 := (List.getElem?_eq_some_iff.1 hu).1
        rw [List.getElem?_take_of_lt (by simp at h5; omega)] at hu
        have hc2 := (hal.block g0 (Array.getElem?_eq_some_iff.1 hcur).1).trans hcur
        simp only [World.cell?, hc2]
        simpa using hu)
      clear hL hkl hlv hos' hst hnm HL hcur hsz htk
      go_wp2_with (at_builtin; refine wpList_append_grows _ rfl _ _ 44 rfl 3 i0 (.int .i64 0) 1 8 und_ints hi0 hz0 hz1 hz2 rfl (by decide) _ l.length l.length (l.map encN) rfl (by simp) (by simp) Hold.out ⟨V.heap.size, 0, none⟩ 1 1 [.int .i64 (i : Int)] rfl rfl (one_new _ _ _) (by simp [Value.oneCell']) (by omega) (by simp only [maxLen]; omega) (by omega) ?_; intro v' W3 hown' hgr; obtain ⟨gg, cap', rfl⟩ := own_succ hown'; have HF3 := Lib.hid (HL1.out.later (below_none hgr)); have HK3 := Lib.hid (Hkl1.out.trans (KL.of_below (base := base) (below_none hgr))); have Hnv := Lib.hid (ListV.snoc (l := l) hown' HbV.out); have d0 := HF3.out.b3.cell 0; have d1 := HF3.out.b3.lt; clear hown' hgr)
      refine (Hf.out (l ++ [i]) _ W3 HF3.out.bel Hnv.out Hnx.out (by simp; omega)).mono ?_
      rintro e W4 ⟨rfl, hb4⟩
      have HF4 := Lib.hid (HF3.out.later hb4)
      have HK4 := Lib.hid (HK3.out.trans (KL.of_below (base := base) hb4))
      have Hnv4 := Lib.hid (show ListV W4 base (l ++ [i]) _ from own_later Hnv.out hb4)
      clear hb4 d0 d1 HF3 HK3 Hnv
      cases hq : fits (l ++ [i])
      rotate_left
      · have HT := Lib.hid hq
        clear hq
        rw [HT.out, if_pos rfl] at Hos
        obtain ⟨ov, vs, ho1, ho2⟩ := HF4.out.out
        have hal4 := balloc (brefl W4) (.cells #[.slice (some ⟨gg, 0, none⟩) (l.length + 1) cap'] 44)
        have hF5 := HF4.out.later hal4
        have ho3 := ho1.later hal4
        have ho4 : OutV (W4.alloc (.cells #[.slice (some ⟨gg, 0, none⟩) (l.length + 1) cap'] 44)) base os' ov vs := ⟨ho2.len, own_later ho2.own hal4, fun j l' hj => by
          obtain ⟨u, h6, h7⟩ := ho2.rows j l' hj
          exact ⟨u, h6, own_later h7 hal4⟩⟩
        have Hnv5 := Lib.hid (show ListV (W4.alloc (.cells #[.slice (some ⟨gg, 0, none⟩) (l.length + 1) cap'] 44)) base (l ++ [i]) (.slice (some ⟨gg, 0, none⟩) (l.length + 1) cap') from own_later Hnv4.out hal4)
        have HK5 := Lib.hid (HK4.out.trans (KL.of_below (base := base) hal4))
        have Hpush := Lib.hid (fun (W5 : World) (ov' : Value) (hg : (W4.alloc (.cells #[.slice (some ⟨gg, 0, none⟩) (l.length + 1) cap'] 44)).grownBy W5 ov.ownBlock) (ho : W5.ownsRow base 44 1 ov' (vs.length + 1) (vs ++ [.slice (some ⟨gg, 0, none⟩) (l.length + 1) cap'])) => hF5.push ho3 ho4 Hnv5.out hg ho)
        have Hgrow := Lib.hid (fun (W5 : World) (hg : (W4.alloc (.cells #[.slice (some ⟨gg, 0, none⟩) (l.length + 1) cap'] 44)).grownBy W5 ov.ownBlock) => ho3.grown hg (ho3.notRow ho4.own (by decide)))
        have hvl : vs.length ≤ 4000 := by rw [ho2.len]; omega
        have hb4 : base ≤ (W4.alloc (.cells #[.slice (some ⟨gg, 0, none⟩) (l.length + 1) cap'] 44)).heap.size := by have := hF5.ge; have := ho3.lt; omega
        have e0 := ho1.cell 0
        have e1 := ho1.lt
        have Ho4 := Lib.hid ho4.own
        obtain ⟨j0, hj0, hjz0, hjz1, hjz2⟩ := info_parts info_ints
        have IHm := IH.out m (by omega) (l ++ [i]) (.slice (some ⟨gg, 0, none⟩) (l.length + 1) cap')
        rw [show (((n - m : Nat)) : Int) = (i : Int) + 1 by omega] at IHm
        have HI := Lib.hid IHm
        clear ho1 ho2 hF5 ho3 ho4 hal4 IHm HF4 HK4 Hnv4
        go_wp2_with (at_builtin; refine wpList_append_own _ rfl _ _ 90 rfl base 44 j0 (.slice none 0 0) 1 24 und_intss hj0 hjz0 hjz1 hjz2 rfl (by decide) ov vs.length vs rfl Ho4.out ⟨W4.heap.size, 0, none⟩ 1 1 [.slice (some ⟨gg, 0, none⟩) (l.length + 1) cap'] rfl rfl (one_new _ _ _) (by simp [Value.oneCell']) (by simp only [maxLen]; omega) (by omega) hb4 ?_; intro ov' W5 hown5 hgr5 _; obtain ⟨g5, cap5, rfl⟩ := own_succ hown5; have hp5 := Hpush.out W5 _ hgr5 hown5; have ho5 := Hgrow.out W5 hgr5; have m0 := ho5.cell 0; have m1 := ho5.lt; have m2 := ho5.frozen 0; have HP5 := Lib.hid hp5; have q0 := hp5.1.b6.cell 0; have q1 := hp5.1.b6.lt; clear hown5 hgr5 hp5 ho5)
        refine (HI.out _ (os' ++ [l ++ [i]]) (by omega) (by simp; omega) Hnx.out HP5.out.1 (HP5.out.2.2 _ _ Hnv5.out) (by simp; omega)).mono ?_
        rintro e W6 ⟨rfl, hL6, hK6⟩
        have HL6 := Lib.hid hL6
        have HK6 := Lib.hid ((HK5.out.trans HP5.out.2).trans hK6)
        clear hL6 hK6 m0 m1 m2 q0 q1 e0 e1 HP5
        have hgl := goL_len fits n m (l ++ [i])
        go_wp2
        refine hK _ _ m (by omega) ⟨rfl, i + 1, _, by omega, by omega, Lib.hid (by rw [← Hos.out]; simp), ?_, HL6.out, HK6.out, ?_⟩
        · rw [List.length_append, List.length_append]; simp only [List.length_cons, List.length_nil]; omega
        · repeat (first | exact fits_nil | refine fits_none ?_ | refine fits_some ?_)
      · have HT := Lib.hid hq
        clear hq
        rw [HT.out, if_neg (by simp)] at Hos
        go_wp2
        refine hK _ _ m (by omega) ⟨rfl, i + 1, os', by omega, by omega, Lib.hid (by rw [← Hos.out]; simp), by omega, HF4.out, HK4.out, ?_⟩
        repeat (first | exact fits_nil | refine fits_none ?_ | refine fits_some ?_)
end Go.Proofs.Ytbbdlebmagknmaa
