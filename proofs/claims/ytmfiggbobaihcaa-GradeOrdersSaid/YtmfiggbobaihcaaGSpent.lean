/- The store's spent. -/
import Derived.Test.YtmfiggbobaihcaaGGiven
import Derived.Laws.StructEq
namespace Go.Proofs.Ytmfiggbobaihcaa
open Go.RowKit Go.Shelf Go.Maps
attribute [local go_sem] Oper.semAt_some

/-- What of a map has not come yet, of a grade. -/
noncomputable def restG (F : Nat → Nat → Option Int) (left : Lit → Bool) (g : Nat) : Int := sumF (fun f => if left (keyL f g) then (F f g).getD 0 else 0) 8
/-- Numbers of eight orders and five grades. -/
def OrdF (F : Nat → Nat → Option Int) : Prop := ∀ f k v, F f k = some v → (f < 8 ∧ k < 5) ∧ 0 ≤ v ∧ v ≤ 20
theorem OrdF.steps {i : Nat} (hi : i < 8) : ∀ (xs : List Nat) (s : Gs), GsOk s → OrdF s.F → (∀ x ∈ xs, x < 5) → OrdF (xs.foldl (stepG i) s).F
  | [], _, _, h, _ => h
  | x :: xs, s, hs, h, hx => by
    have hx5 := hx x (by simp)
    refine OrdF.steps hi xs (stepG i s x) (hs.step i hx5) ?_ fun y hy => hx y (by simp [hy])
    intro f k v hv
    unfold stepG updF at hv
    simp only at hv
    split at hv
    · rename_i e
      obtain ⟨rfl, rfl⟩ := e
      have h1 := hs.1 k hx5
      have h2 := hs.2
      simp only [Option.some.injEq] at hv
      exact ⟨⟨hi, hx5⟩, by omega⟩
    · exact h f k v hv
theorem giveG_ord {O : List Od} {M : Nat → Int} (hO : OOk O) (hM : ∀ j, j < 5 → 0 ≤ M j ∧ M j ≤ 150) (l : List Nat) (hl : ∀ i ∈ l, i < O.length) : OrdF (giveG O M l).2 := by
  have key : ∀ (l : List Nat) (s : (Nat → Int) × (Nat → Nat → Option Int)), (∀ i ∈ l, i < O.length) → (∀ j, j < 5 → 0 ≤ s.1 j ∧ s.1 j ≤ 150) → OrdF s.2 → OrdF (l.foldl (orderG O) s).2 := by
    intro l
    induction l with
    | nil => exact fun s _ _ h => h
    | cons i l ih =>
      intro s hl h h2
      have hi := hO.at_ (hl i (by simp))
      have hd : ∀ x ∈ downL (gAt O i).toNat, x < 5 := fun x hx => by have := down_mem _ _ hx; omega
      refine ih _ (fun y hy => hl y (by simp [hy])) ?_ ?_
      · exact (GsOk.steps (i := i) _ (s := ⟨s.1, mAt O i, s.2⟩) ⟨h, hi.2⟩ hd).1
      · exact OrdF.steps (by have := hO.1; have := hl i (by simp); omega) _ ⟨s.1, mAt O i, s.2⟩ ⟨h, hi.2⟩ h2 hd
  exact key l _ hl hM fun f k v h => by cases h
/-- While the map is ranged over: block N the result, N + 1 what has come. -/
structure SP (w W : World) (r : Nat) (D : DM) (F : Nat → Nat → Option Int) (left : Lit → Bool) (G : Nat → Int) : Prop where
  bel : Below w.heap.size w W
  b0 : Blk W w.heap.size 81 (ctsA fun _ => 0)
  b1 : Blk W (w.heap.size + 1) 81 (ctsA G)
  is : MapIs D F
  has : ∀ z, left z = true → has D z = true
  sum : ∀ g, g < 5 → G g + restG F left g = gotG F g
  lo : w.heap.size + 1 < r
section
variable {w W W' : World} {r : Nat} {D : DM} {F : Nat → Nat → Option Int} {left : Lit → Bool} {G : Nat → Int}
theorem SP.later (h : SP w W r D F left G) (hb : Below W.heap.size W W') : SP w W' r D F left G := ⟨Below.later h.bel hb, h.b0.later hb, h.b1.later hb, h.is, h.has, h.sum, h.lo⟩
theorem SP.grown (h : SP w W r D F left G) (hg : W.grownBy W' (some r)) : SP w W' r D F left G := by
  have hlo := h.lo
  exact ⟨h.bel.trans ⟨hg.os, hg.tape, hg.output, hg.size, fun i hi => hg.block i (by have := h.bel.size; omega) (fun e => by simp at e; omega)⟩, h.b0.grown hg (by simp; omega), h.b1.grown hg (by simp; omega), h.is, h.has, h.sum, hlo⟩
theorem restG_nonneg (hF : OrdF F) (g : Nat) : 0 ≤ restG F left g := by
  have key : ∀ n, 0 ≤ sumF (fun f => if left (keyL f g) then (F f g).getD 0 else 0) n := fun n => by
    induction n with
    | zero => exact Int.le_refl _
    | succ n ih =>
      have h1 : 0 ≤ (if left (keyL n g) then (F n g).getD 0 else 0) := by
        cases hv : F n g with
        | none => split <;> exact Int.le_refl _
        | some v =>
          have := (hF n g v hv).2
          split
          · exact this.1
          · exact Int.le_refl _
      exact Int.add_nonneg ih h1
  exact key 8
theorem left_other {f k f' g : Nat} (hs : f ≤ 1000 ∧ k ≤ 1000) (hs' : f' ≤ 1000 ∧ g ≤ 1000) (hne : ¬ (f' = f ∧ g = k)) : (left (keyL f' g) && !(keyL f' g).sameKey (keyL f k)) = left (keyL f' g) := by
  have hne : keyL f' g ≠ keyL f k := fun e' => hne (keyL_inj hs'.1 hs'.2 hs.1 hs.2 e')
  simp [sameKey_ne hne]
theorem restG_come (hF : OrdF F) {f k : Nat} {v : Int} (hv : F f k = some v) (hl : left (keyL f k) = true) (g : Nat) (hg : g < 5) : restG F (fun z => left z && !z.sameKey (keyL f k)) g = restG F left g - (if g = k then v else 0) := by
  have hs := hF f k v hv
  have hself : (keyL f k).sameKey (keyL f k) = true := WideAt.sameKey_self (keyed_pl.key (keyL_of f k (by omega) (by omega)))
  unfold restG
  by_cases e : g = k
  · subst e
    rw [if_pos rfl, Int.sub_eq_add_neg]
    refine sumF_upd (i := f) ?_ (fun j hj => ?_) 8 hs.1.1
    · simp [hself, hl, hv]; omega
    · by_cases h8 : j ≤ 1000
      · simp only [left_other (left := left) (f := f) (k := g) (f' := j) (g := g) ⟨by omega, by omega⟩ ⟨h8, by omega⟩ (fun h => hj h.1)]
      · have hn : F j g = none := by
          cases hv' : F j g with
          | none => rfl
          | some v' => have := (hF j g v' hv').1.1; omega
        simp [hn]
  · rw [if_neg e, Int.sub_zero]
    refine sumF_congr 8 fun j hj => ?_
    simp only [left_other (left := left) (f := f) (k := k) (f' := j) (g := g) ⟨by omega, by omega⟩ ⟨by omega, by omega⟩ (fun h => e h.2)]
theorem gotG_bound (hF : OrdF F) (g : Nat) : 0 ≤ gotG F g ∧ gotG F g ≤ 160 := by
  have key : ∀ n : Nat, 0 ≤ sumF (fun f => (F f g).getD 0) n ∧ sumF (fun f => (F f g).getD 0) n ≤ 20 * n := fun n => by
    induction n with
    | zero => exact ⟨Int.le_refl _, by simp [sumF]⟩
    | succ n ih =>
      have h1 : 0 ≤ (F n g).getD 0 ∧ (F n g).getD 0 ≤ 20 := by
        cases hv : F n g with
        | none => exact ⟨Int.le_refl _, by decide⟩
        | some v => exact (hF n g v hv).2
      have h2 : sumF (fun f => (F f g).getD 0) (n + 1) = sumF (fun f => (F f g).getD 0) n + (F n g).getD 0 := rfl
      rw [h2]
      omega
  have := key 8
  unfold gotG
  omega
theorem SP.bound (h : SP w W r D F left G) (hF : OrdF F) {g : Nat} (hg : g < 5) : G g ≤ 160 := by
  have h1 := h.sum g hg
  have h2 := restG_nonneg (left := left) hF g
  have h3 := gotG_bound hF g
  omega
theorem SP.come (h : SP w W r D F left G) (hF : OrdF F) {f k : Nat} {v : Int} (hv : F f k = some v) (hl : left (keyL f k) = true) : SP w (W.setCell ⟨w.heap.size + 1, k, none⟩ (.int .i64 (G k + v))) r D F (fun z => left z && !z.sameKey (keyL f k)) (updN G k (G k + v)) := by
  have hk := (hF f k v hv).1.2
  have hset := h.b1.set k (.int .i64 (G k + v))
  rw [ctsA_set _ hk] at hset
  refine ⟨h.bel.setCell (by show w.heap.size ≤ w.heap.size + 1; omega) _, h.b0.other (by show w.heap.size + 1 ≠ _; omega) _, hset, h.is, fun z hz => h.has z (by simp at hz; exact hz.1), fun g hg => ?_, h.lo⟩
  have h1 := h.sum g hg
  rw [restG_come hF hv hl g hg]
  unfold updN
  by_cases e : g = k
  · subst e; rw [if_pos rfl, if_pos rfl]; omega
  · rw [if_neg e, if_neg e]; omega
end
theorem grown_set (W : World) (p : Addr) (u : Value) : W.grownBy (W.setCell p u) (some p.block) :=
  ⟨rfl, rfl, rfl, by simp [World.setCell], fun k _ hne => Below.heap_setCell W p u k (fun e => hne (by rw [e]))⟩
theorem eqItems_step (W : World) (xs ys : Array Value) (i : Nat) (is : List Nat) (a b : Int) (hx : xs[i * 1]? = some (.int .i64 a)) (hy : ys[i * 1]? = some (.int .i64 b)) : (Op.eqItems 9999 2 1 xs ys (i :: is)).run Try.prog W = if a == b then (Op.eqItems 9999 2 1 xs ys is).run Try.prog W else .ok false W := by
  have hp : Try.prog.plainKey 2 = true := by simp [Program.plainKey]
  have he : (Op.equalIn 9999 2 (.int .i64 a) (.int .i64 b)).run Try.prog W = .ok (a == b) W := run_equalIn_int W 9998 2 .i64 .i64 a b und_i64
  simp only [Op.eqItems, Sem.run_bind]
  rw [run_part_plain W hp hx, Result.andThen_ok, run_part_plain W hp hy, Result.andThen_ok, he, Result.andThen_ok]
  cases a == b <;> simp
theorem counts_eq (W : World) (g0 g1 g2 g3 g4 : Int) : (Op.equalIn 10000 81 (.agg #[.int .i64 g0, .int .i64 g1, .int .i64 g2, .int .i64 g3, .int .i64 g4]) (.agg #[.int .i64 0, .int .i64 0, .int .i64 0, .int .i64 0, .int .i64 0])).run Try.prog W = .ok (g0 == 0 && g1 == 0 && g2 == 0 && g3 == 0 && g4 == 0) W := by
  obtain ⟨i0, hi0, _, _, _⟩ := info_parts info_long
  have hc : Try.prog.cellsOf 2 = 1 := by kernel_rfl
  rw [run_equalIn_array W 9999 _ _ (by kernel_rfl : Try.prog.underlying 81 = some (.array 5 2)) hi0, hc]
  simp only [show List.range 5 = [0, 1, 2, 3, 4] from rfl]
  rw [eqItems_step W _ _ 0 _ g0 0 rfl rfl, eqItems_step W _ _ 1 _ g1 0 rfl rfl, eqItems_step W _ _ 2 _ g2 0 rfl rfl, eqItems_step W _ _ 3 _ g3 0 rfl rfl, eqItems_step W _ _ 4 _ g4 0 rfl rfl]
  cases g0 == 0 <;> cases g1 == 0 <;> cases g2 == 0 <;> cases g3 == 0 <;> cases g4 == 0 <;> simp [Op.eqItems]
set_option maxRecDepth 100000 in
set_option maxHeartbeats 8000000 in
theorem spent_any (T : Nat) (SA : Option Addr) (sn sc : Nat) (PA : Option Addr) (pn pc : Nat) (OA : Option Addr) (on oc : Nat) (S P : List Int) (O : List Od) (M : Nat → Int) (w : World) (hs : StIn w T SA sn sc PA pn pc OA on oc S P O M) (hO : OOk O) (hM : ∀ j, j < 5 → 0 ≤ M j ∧ M j ≤ 150) :
    Calls Try.prog 67 #[.pointer (some ⟨T, 0, none⟩)] w fun e w' => ∃ (l : List Nat) (F : Nat → Nat → Option Int), e = .returned (.agg (ctsA (gotG F))) ∧ Below w.heap.size w w' ∧ l.Perm (List.range O.length) ∧ (l.Pairwise fun x y => gAt O x ≤ gAt O y) ∧ ∀ f k, F f k = if (giveG O M l).2 f k = some 0 then none else (giveG O M l).2 f k := by
  have hb0 := balloc (balloc (brefl w) (.cells (ctsA fun _ => 0) 81)) (.cells (ctsA fun _ => 0) 81)
  have hb1 := Blk.new (w.alloc (.cells (ctsA fun _ => 0) 81)) 81 (ctsA fun _ => 0)
  rw [World.size_alloc] at hb1
  have HB := Lib.hid hb0
  have HB0 := Lib.hid ((Blk.new w 81 (ctsA fun _ => 0)).alloc (.cells (ctsA fun _ => 0) 81))
  have HB1 := Lib.hid hb1
  have HT := Lib.hid (hs.later hb0)
  have HO := Lib.hid hO
  have HM := Lib.hid hM
  clear hb0 hb1 hs hO hM
  unfold ctsA at HB HB0 HB1 HT
  go_enter Try.func67, Try.ntmps67
  go_wp2_with fail
  refine (give_any T _ _ _ _ _ _ _ _ _ S P O M _ HT.out HO.out HM.out).mono ?_
  rintro e w1 ⟨b, n, D, l, F, rfl, hb, hbl, hown, hmap, hn, hp, hsrt, hF⟩
  have HP := Lib.hid hp
  have HS := Lib.hid hsrt
  have HF := Lib.hid hF
  have HOF := Lib.hid (show OrdF F from fun f k v hv => by
    rw [hF] at hv
    split at hv
    · cases hv
    · exact giveG_ord HO.out HM.out l (fun i hi => List.mem_range.1 (hp.mem_iff.1 hi)) f k v hv)
  have HB' := Lib.hid (Below.later HB.out hb)
  have HB0' := Lib.hid (HB0.out.later hb)
  have HB1' := Lib.hid (HB1.out.later hb)
  have Hown := Lib.hid hown
  have Hmap := Lib.hid hmap
  have hbl2 : w.heap.size + 1 < b := by simp at hbl; omega
  clear hp hsrt hF hb hown hmap HB HB0 HB1 HT hbl
  have hbW : b < w1.heap.size := by
    obtain ⟨_, _, hb, _⟩ := Hown.out
    exact (Array.getElem?_eq_some_iff.1 hb).1
  go_wp2_with (at_range; refine wpList_range_own _ rfl _ 93 rfl 96 2 keyed_pl und_mpl _ b n D rfl Hown.out ?_; intro w0 hrg0 hg0 hs0)
  try go_frame
  have hR0 : SP w w0 w1.heap.size D F (Maps.has D) (fun _ => 0) := by
    refine ⟨HB'.out.trans ⟨hg0.os, hg0.tape, hg0.output, hg0.size, fun i hi => hg0.block i (by have := HB'.out.size; omega) (fun e => by cases e)⟩, HB0'.out.grown hg0 (fun e => by cases e), HB1'.out.grown hg0 (fun e => by cases e), Hmap.out, fun z h => h, fun g hg => ?_, by omega⟩
    rw [Int.zero_add]
    refine sumF_congr 8 fun j hj => ?_
    cases hv : F j g with
    | none => simp
    | some v => rw [if_pos (Hmap.out.yes j g v hv).1]
  have HR0 := Lib.hid hR0
  have Hrg0 := Lib.hid hrg0
  generalize w1.heap.size = r at *
  clear hrg0 hg0 hs0 hR0 Hown Hmap HB' HB0' HB1' hbW
  clear w1
  refine loop_n (fun m a W => a.defers = [] ∧ ∃ (left : Lit → Bool) (cnt : Nat) (G : Nat → Int), cnt ≤ m ∧ Hid (SP w W r D F left G) ∧ Hid (RangesM W b r n D left cnt) ∧ Hid (∀ g, g < 5 → 0 ≤ G g) ∧ Fits (none :: none :: some (.pointer (some ⟨w.heap.size, 0, none⟩)) :: some (.pointer (some ⟨w.heap.size + 1, 0, none⟩)) :: none :: none :: none :: none :: some (.pointer (some ⟨r, 0, none⟩)) :: none :: none :: none :: none :: none :: none :: none :: none :: none :: none :: none :: none :: none :: none :: none :: none :: none :: []) a.tmps.toList) (Maps.size D) ?_ ?_
  · refine ⟨rfl, _, _, _, Nat.le_refl _, HR0, Hrg0, Lib.hid (fun g _ => Int.le_refl _), ?_⟩
    repeat (first | exact fits_nil | refine fits_none ?_ | refine fits_some ?_)
  clear HR0 Hrg0
  clear w0
  intro m a W hI K hK
  obtain ⟨hds, left, cnt, G, hcm, HR, Hrg, HG0, hfit⟩ := hI
  obtain ⟨f, hf⟩ := fits_act hfit
  rw [hds] at hf
  subst hf
  clear hfit hds
  simp only [fillP, Nat.reduceAdd]
  rcases Hrg.out.next keyed_pl 0 with ⟨hc0, hl0, hrun⟩ | ⟨x, c, kl, y, w1, cnt1, hkey, hlk, hv, hat, hrun, hrg1, hlt1, hgr, hsz, hen⟩
  · have HE := Lib.hid (show ctsA G = ctsA (gotG F) by
      have h : ∀ g, g < 5 → G g = gotG F g := fun g hg => by
        have h1 := HR.out.sum g hg
        have h2 : restG F left g = 0 := by
          unfold restG
          have : sumF (fun f => if left (keyL f g) then (F f g).getD 0 else 0) 8 = sumF (fun _ => 0) 8 := sumF_congr 8 fun j _ => by rw [hl0]; simp
          rw [this]
          rfl
        omega
      unfold ctsA
      rw [h 0 (by omega), h 1 (by omega), h 2 (by omega), h 3 (by omega), h 4 (by omega)])
    have HR1 := HR.out.b1
    have b0 := HR.out.b0.lt
    have b1 := HR.out.b1.lt
    have f0 := HR.out.b0.frozen 0
    have f1 := HR.out.b0.frozen 1
    have f2 := HR.out.b0.frozen 2
    have f3 := HR.out.b0.frozen 3
    have f4 := HR.out.b0.frozen 4
    have Hbel := Lib.hid HR.out.bel
    unfold ctsA at HR1 HE
    generalize G 0 = g0 at *
    generalize G 1 = g1 at *
    generalize G 2 = g2 at *
    generalize G 3 = g3 at *
    generalize G 4 = g4 at *
    have c0 := HR1.cell 0
    have c1 := HR1.cell 1
    have c2 := HR1.cell 2
    have c3 := HR1.cell 3
    have c4 := HR1.cell 4
    have HR2 := HR.out.b0
    unfold ctsA at HR2
    have d0 := HR2.cell 0
    have d1 := HR2.cell 1
    have d2 := HR2.cell 2
    have d3 := HR2.cell 3
    have d4 := HR2.cell 4
    clear hc0 hl0 hK HR1 HR2
    obtain ⟨q, hq⟩ : ∃ q : Bool, (g0 == 0 && g1 == 0 && g2 == 0 && g3 == 0 && g4 == 0) = q := ⟨_, rfl⟩
    have he := counts_eq W g0 g1 g2 g3 g4
    rw [hq] at he
    have Hq := Lib.hid hq
    clear hq
    cases q with
    | false =>
      go_wp2
      refine bodyPost_ret (v := .agg #[.int .i64 g0, .int .i64 g1, .int .i64 g2, .int .i64 g3, .int .i64 g4]) ?_ rfl ⟨l, F, congrArg (fun z => Ending.returned (.agg z)) HE.out, ?_, HP.out, HS.out, HF.out⟩
      · simp [results, Try.results67, go_sem, d0, d1, d2, d3, d4]
      · exact ((((Hbel.out.setCell (Nat.le_refl _) _).setCell (Nat.le_refl _) _).setCell (Nat.le_refl _) _).setCell (Nat.le_refl _) _).setCell (Nat.le_refl _) _
    | true =>
      have hq := Hq.out
      simp only [Bool.and_eq_true, beq_iff_eq] at hq
      obtain ⟨⟨⟨⟨rfl, rfl⟩, rfl⟩, rfl⟩, rfl⟩ := hq
      clear Hq
      go_wp2
      refine bodyPost_ret (v := .agg #[.int .i64 0, .int .i64 0, .int .i64 0, .int .i64 0, .int .i64 0]) ?_ rfl ⟨l, F, congrArg (fun z => Ending.returned (.agg z)) HE.out, ?_, HP.out, HS.out, HF.out⟩
      · simp [results, Try.results67, go_sem, d0, d1, d2, d3, d4]
      · exact ((((Hbel.out.setCell (Nat.le_refl _) _).setCell (Nat.le_refl _) _).setCell (Nat.le_refl _) _).setCell (Nat.le_refl _) _).setCell (Nat.le_refl _) _
  · obtain ⟨f', k', v, rfl, hFv⟩ := HR.out.is.only kl (HR.out.has kl hlk)
    obtain ⟨⟨hf1, hk1⟩, hv0, hv1⟩ := HOF.out f' k' v hFv
    obtain rfl : x = .agg #[.int .i64 (f' : Int), .int .i64 (k' : Int)] := keyed_pl.inj hkey (keyL_of f' k' (by omega) (by omega))
    obtain ⟨cv, rfl, hy, hwf⟩ := plainElem_int_inv und_i64 hv
    obtain rfl : cv = v := by
      have h1 := (HR.out.is.yes f' k' v hFv).2 (.lit (.int .i64 0))
      rw [hat, hy] at h1
      simpa using h1
    have hR1 := HR.out.grown hgr
    have hGs := balloc (brefl w1) (.cells #[.int .i64 (f' : Int), .int .i64 (k' : Int)] 96)
    have hBs : Blk (w1.alloc (.cells #[.int .i64 (f' : Int), .int .i64 (k' : Int)] 96)) w1.heap.size 96 #[.int .i64 (f' : Int), .int .i64 (k' : Int)] := Blk.new _ _ _
    have hR2 := hR1.later hGs
    have hrg2 : RangesM (w1.alloc (.cells #[.int .i64 (f' : Int), .int .i64 (k' : Int)] 96)) b r n D (fun z => left z && !z.sameKey (keyL f' k')) cnt1 := hrg1.kept (grown_none hGs) (by simp) (by simp)
    have hR3 := hR2.come HOF.out hFv hlk
    have hrg3 : RangesM ((w1.alloc (.cells #[.int .i64 (f' : Int), .int .i64 (k' : Int)] 96)).setCell ⟨w.heap.size + 1, k', none⟩ (.int .i64 (G k' + cv))) b r n D (fun z => left z && !z.sameKey (keyL f' k')) cnt1 := hrg2.kept (grown_set _ _ _) (by simp; omega) (by have := hR2.lo; simp; omega)
    have hbd := hR3.bound HOF.out hk1
    have hb2 : (updN G k' (G k' + cv)) k' = G k' + cv := by simp [updN]
    rw [hb2] at hbd
    have hg0 := HG0.out k' hk1
    have HG1 := Lib.hid (show ∀ g, g < 5 → 0 ≤ updN G k' (G k' + cv) g from fun g hg => by
      unfold updN
      split
      · omega
      · exact HG0.out g hg)
    have y1 : (k' : Int) < 5 := by omega
    have y2 : (0 : Int) ≤ (k' : Int) := by omega
    have y3 : IntKind.i64.wrap (G k' + cv) = G k' + cv := by rw [IntKind.wrap_i64]; omega
    have s0 := hBs.cell 0
    have s1 := hBs.cell 1
    have sl := hBs.lt
    have t0 := cts_cell hR2.b1 hk1
    have t1 := hR2.b1.frozen k'
    have t2 := hR2.b1.lt
    have HR3 := Lib.hid hR3
    have Hrg3 := Lib.hid hrg3
    clear hkey hlk hv hat hgr hsz hFv hy hwf hR1 hrg1 hGs hBs hR2 hrg2 hrg3 hR3 HR Hrg hbd hb2 hg0
    go_wp2
    refine hK _ _ (m - 1) (by omega) ⟨rfl, _, cnt1, _, by omega, HR3, Hrg3, HG1, ?_⟩
    repeat (first | exact fits_nil | refine fits_none ?_ | refine fits_some ?_)
end Go.Proofs.Ytmfiggbobaihcaa
