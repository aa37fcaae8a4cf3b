/- steam's vat.fill: the loads, and hours for all logs. -/
import Derived.Test.YtbbdlebmagknmaaSThree
import Derived.Test.YtbbdlebmagknmaaSPlan
namespace Go.Proofs.Ytbbdlebmagknmaa
open Go.RowKit Go.Shelf

def loAt (rs : List Rg) (i : Nat) : Int := (rs.getD i ⟨0, 0⟩).lo
def hiAt (rs : List Rg) (i : Nat) : Int := (rs.getD i ⟨0, 0⟩).hi
theorem loAt_eq {rs : List Rg} {i : Nat} {x : Rg} (h : rs[i]? = some x) : loAt rs i = x.lo := by simp [loAt, List.getD, h]
theorem hiAt_eq {rs : List Rg} {i : Nat} {x : Rg} (h : rs[i]? = some x) : hiAt rs i = x.hi := by simp [hiAt, List.getD, h]
/-- Logs that are steamed in hours. -/
def RsOk (rs : List Rg) : Prop := rs.length ≤ 10 ∧ ∀ x ∈ rs, 0 ≤ x.lo ∧ x.lo ≤ x.hi ∧ x.hi ≤ 100
theorem RsOk.at_ {rs : List Rg} (h : RsOk rs) {i : Nat} (hi : i < rs.length) : 0 ≤ loAt rs i ∧ loAt rs i ≤ hiAt rs i ∧ hiAt rs i ≤ 100 := by
  have hx := List.getElem?_eq_getElem hi
  rw [loAt_eq hx, hiAt_eq hx]
  exact h.2 _ (List.getElem_mem hi)
/-- The box of the vat's pointer, and the vat. -/
structure FV (w W : World) (N g : Nat) (L : Int) (A : Option Addr) (n c : Nat) : Prop where
  bel : Below N w W
  b0 : Blk W N 70 #[.pointer (some ⟨g, 0, none⟩)]
  v0 : Blk W g 87 #[.int .i64 L, .slice A n c]
section
variable {w W W' : World} {N g : Nat} {L : Int} {A : Option Addr} {n c : Nat}
theorem FV.later (h : FV w W N g L A n c) (hb : Below W.heap.size W W') : FV w W' N g L A n c :=
  ⟨h.bel.trans ⟨hb.os, hb.tape, hb.output, hb.size, fun k hk => by
    by_cases e : k < W.heap.size
    · exact hb.block k e
    · have := h.b0.lt; omega⟩, h.b0.later hb, h.v0.later hb⟩
theorem FV.grown (h : FV w W N g L A n c) {b : Nat} (hg : W.grownBy W' (some b)) (hN : N < b) (hgb : g ≠ b) : FV w W' N g L A n c :=
  ⟨h.bel.trans ⟨hg.os, hg.tape, hg.output, hg.size, fun k hk => hg.block k (by have := h.b0.lt; omega) (fun e => by simp at e; omega)⟩, h.b0.grown hg (by simp; omega), h.v0.grown hg (by simp; omega)⟩
theorem FV.cells (h : FV w W N g L A n c) : W.cell? ⟨N, 0, none⟩ = some (.pointer (some ⟨g, 0, none⟩)) ∧ W.cell? ⟨g, 0, none⟩ = some (.int .i64 L) ∧ W.cell? ⟨g, 1, none⟩ = some (.slice A n c) ∧ N < W.heap.size ∧ g < W.heap.size := ⟨h.b0.cell 0, h.v0.cell 0, h.v0.cell 1, h.b0.lt, h.v0.lt⟩
end
def cfR (rs : List Rg) (x y : Nat) : Int := hiAt rs x - hiAt rs y
set_option maxRecDepth 100000 in
set_option maxHeartbeats 4000000 in
theorem fillCmp_any {w W : World} {N g : Nat} {L : Int} {A : Option Addr} {c : Nat} {rs : List Rg} (hF : FV w W N g L A rs.length c) (hs : Sl 2 encR w w.heap.size A rs.length c rs) (hN : w.heap.size ≤ N) (hr : RsOk rs) {x y : Nat} (hx : x < rs.length) (hy : y < rs.length) :
    Calls Try.prog 82 #[.int .i64 (x : Int), .int .i64 (y : Int), .pointer (some ⟨N, 0, none⟩)] W fun e W' => e = .returned (.int .i64 (cfR rs x y)) ∧ Below W.heap.size W W' := by
  obtain ⟨m0, m1, m2, ml, mg⟩ := hF.cells
  obtain ⟨a0, a1, a2⟩ := hr.at_ hx
  obtain ⟨b0, b1, b2⟩ := hr.at_ hy
  have hs2 := hs.later (hF.bel.mono hN)
  obtain ⟨rb, ro, u, rfl, hrb, hu, _, g1⟩ := hs2.ltR hx
  obtain ⟨rb2, ro2, u2, hA, hrb2, hu2, _, g3⟩ := hs2.ltR hy
  simp only [Option.some.injEq, Addr.mk.injEq, and_true] at hA
  obtain ⟨rfl, rfl⟩ := hA
  unfold cfR
  rw [hiAt_eq hu] at a1 a2 ⊢
  rw [hiAt_eq hu2] at b1 b2 ⊢
  have i1 : (x : Int) < (rs.length : Int) := by omega
  have i2 : (0 : Int) ≤ (x : Int) := by omega
  have i3 : (y : Int) < (rs.length : Int) := by omega
  have i4 : (0 : Int) ≤ (y : Int) := by omega
  obtain ⟨q, hq⟩ : ∃ q, u.hi - u2.hi = q := ⟨_, rfl⟩
  have i5 : IntKind.i64.wrap (u.hi - u2.hi) = q := by rw [IntKind.wrap_i64]; omega
  rw [hq]
  clear hs hs2 hF hu hu2 hr a0 a1 a2 b0 b1 b2 hq
  go_enter Try.func82, Try.ntmps82
  go_wp2_with fail
  refine dag 20 (by kernel_rfl) (by kernel_rfl) (.is ?_ :: .is ?_ :: .is ?_ :: .is ?_ :: .is ?_ :: .is ?_ :: .is ?_ :: .is ?_ :: .is ?_ :: .is ?_ :: .is ?_ :: .is ?_ :: .is ?_ :: .is ?_ :: .is ?_ :: .is ?_ :: .is ?_ :: .is ?_ :: .is ?_ :: .is ?_ :: []) rfl ?st1 ?ob1
  case st1 => simp [Spec.ok]
  case ob1 =>
    intro env W' hG
    obtain ⟨hc, hf⟩ := bcell hG
    repeat (refine obls_is ?_ ?_; unfold doesAt; go_simp; (try go_bits); (first | (refine ⟨brefl _, ?_⟩; rfl) | rfl); intro K hK; go_simp; refine hK _ ?_; clear hK K)
    refine obls_nil (fun _ => ?_)
    have HB := Lib.hid hG
    clear hc hf hG
    go_wp2
    go_ret
    exact ⟨rfl, HB.out⟩

theorem fillL_len {α : Type} (lo hi : α → Int) (L : Nat) : ∀ (f : Nat) (l : List α), (Fill.fillL lo hi L f l).length ≤ f
  | 0, l => by unfold Fill.fillL; simp
  | f + 1, [] => by unfold Fill.fillL; simp
  | f + 1, x :: l => by
    unfold Fill.fillL
    have := fillL_len lo hi L f (Fill.takeL lo (hi x) L (x :: l)).2
    simp only [List.length_cons]; omega
/-- While the list of all logs is made: block N the box, N + 1 the hours. -/
structure F1 (w W : World) (g : Nat) (L : Int) (A : Option Addr) (n c : Nat) (i : Nat) (v : Value) : Prop where
  fv : FV w W w.heap.size g L A n c
  hrs : Blk W (w.heap.size + 1) 2 (numArr n fun _ => 0)
  lf : LeftV W (w.heap.size + 1 + 1) (List.range i) v
theorem F1.later {w W W' : World} {g : Nat} {L : Int} {A : Option Addr} {n c i : Nat} {v : Value} (h : F1 w W g L A n c i v) (hb : Below W.heap.size W W') : F1 w W' g L A n c i v := ⟨h.fv.later hb, h.hrs.later hb, h.lf.later hb⟩
theorem F1.own {w W W' : World} {g : Nat} {L : Int} {A : Option Addr} {n c i : Nat} {v v' : Value} (h : F1 w W g L A n c i v) (hW : w.heap.size + 1 + 1 ≤ W.heap.size) (hg : W.grownBy W' none) (ho : W'.ownsRow W.heap.size 3 1 v' (i + 1) ((List.range i).map encN ++ [.int .i64 (i : Int)])) : F1 w W' g L A n c (i + 1) v' := by
  have hb : Below W.heap.size W W' := ⟨hg.os, hg.tape, hg.output, hg.size, fun k hk => hg.block k hk (by simp)⟩
  refine ⟨h.fv.later hb, h.hrs.later hb, LeftV.own (own_low ?_ hW)⟩
  have he : (List.range i).map encN ++ [.int .i64 (i : Int)] = (List.range (i + 1)).map encN := by rw [List.range_succ, List.map_append]; rfl
  rw [he] at ho
  simpa using ho
def asg (ps : List (Nat × Int)) (H : Nat → Int) : Nat → Int := ps.foldl (fun H p => updN H p.1 p.2) H
/-- What the filling is. -/
structure FillOk (rs : List Rg) (L : Nat) (l : List Nat) (ts : List Int) (H : Nat → Int) : Prop where
  perm : l.Perm (List.range rs.length)
  srt : l.Pairwise fun a b => hiAt rs a ≤ hiAt rs b
  ts_eq : ts = Fill.fillL (loAt rs) (hiAt rs) L rs.length l
  hrs : H = asg (Fill.fillA (loAt rs) (hiAt rs) L rs.length l) (fun _ => 0)
/-- While loads are filled: block N the box, N + 1 the hours. -/
structure F2 (w W : World) (g : Nat) (L : Int) (A : Option Addr) (n c : Nat) (H : Nat → Int) (tv : Value) (ts : List Int) (left : List Nat) (lv : Value) : Prop where
  fv : FV w W w.heap.size g L A n c
  hrs : Blk W (w.heap.size + 1) 2 (numArr n H)
  tv : W.ownsRow (w.heap.size + 1 + 1) 2 1 tv ts.length (ts.map (.int .i64))
  lf : LeftV W (w.heap.size + 1 + 1) left lv
section
variable {w W W' : World} {g : Nat} {L : Int} {A : Option Addr} {n c : Nat} {H : Nat → Int} {tv : Value} {ts : List Int} {left : List Nat} {lv : Value}
theorem F2.later (h : F2 w W g L A n c H tv ts left lv) (hb : Below W.heap.size W W') : F2 w W' g L A n c H tv ts left lv := ⟨h.fv.later hb, h.hrs.later hb, own_later h.tv hb, h.lf.later hb⟩
theorem F2.load (h : F2 w W g L A n c H tv ts left lv) {tv' : Value} {t : Int} (hgl : g < w.heap.size) (hg : W.grownBy W' tv.ownBlock) (ho : W'.ownsRow (w.heap.size + 1 + 1) 2 1 tv' (ts.length + 1) (ts.map (.int .i64) ++ [.int .i64 t])) : F2 w W' g L A n c H tv' (ts ++ [t]) left lv := by
  have hbs := own_base h.tv
  have hne : ∀ b, b < w.heap.size + 1 + 1 → tv.ownBlock ≠ some b := fun b hb e => by have := hbs b e; omega
  refine ⟨⟨h.fv.bel.trans ⟨hg.os, hg.tape, hg.output, hg.size, fun k hk => hg.block k (by have := h.fv.b0.lt; omega) (fun e => hne k (by omega) e.symm)⟩, h.fv.b0.grown hg (hne _ (by omega)), h.fv.v0.grown hg (hne _ (by omega))⟩, h.hrs.grown hg (hne _ (by omega)), by simpa using ho, h.lf.grown hg (fun b hb e => ?_)⟩
  rcases h.lf with ⟨_, rfl⟩ | ⟨gl, cap, tail, rfl, _, hbl⟩
  · cases hb
  · simp only [Value.ownBlock, Option.some.injEq] at hb
    subst hb
    exact hbl.notRow h.tv (by decide) e
theorem F2.next (h : F2 w W g L A n c H tv ts left lv) {nv : Value} {B1 : Nat} (hgl : g < w.heap.size) (hB1 : w.heap.size + 1 + 1 ≤ B1) (ht : ∀ b, tv.ownBlock = some b → b < B1) (hl : ∀ b, lv.ownBlock = some b → b < B1) (hnb : ∀ b, nv.ownBlock = some b → B1 ≤ b) (hg : W.grownBy W' nv.ownBlock) : F2 w W' g L A n c H tv ts left lv := by
  have hne : ∀ b, b < B1 → nv.ownBlock ≠ some b := fun b hb e => by have := hnb b e; omega
  exact ⟨⟨h.fv.bel.trans ⟨hg.os, hg.tape, hg.output, hg.size, fun k hk => hg.block k (by have := h.fv.b0.lt; omega) (fun e => hne k (by omega) e.symm)⟩, h.fv.b0.grown hg (hne _ (by omega)), h.fv.v0.grown hg (hne _ (by omega))⟩, h.hrs.grown hg (hne _ (by omega)), own_grown h.tv hg (fun b hb => hne b (ht b hb)), h.lf.grown hg (fun b hb => hne b (hl b hb))⟩
theorem F2.put (h : F2 w W g L A n c H tv ts left lv) (hgl : g < w.heap.size) (x : Nat) (t : Int) : F2 w (W.setCell ⟨w.heap.size + 1, x, none⟩ (.int .i64 t)) g L A n c (updN H x t) tv ts left lv := by
  have hlb : ∀ b, lv.ownBlock = some b → b ≠ w.heap.size + 1 := fun b hb => by
    rcases h.lf with ⟨_, rfl⟩ | ⟨gl, cap, tail, rfl, h1, hbl⟩
    · cases hb
    · simp only [Value.ownBlock, Option.some.injEq] at hb; omega
  refine ⟨⟨h.fv.bel.setCell (by show w.heap.size ≤ w.heap.size + 1; omega) _, h.fv.b0.other (by show w.heap.size + 1 ≠ _; omega) _, h.fv.v0.other (by show w.heap.size + 1 ≠ _; omega) _⟩, by have h1 := h.hrs.set x (.int .i64 t); rwa [numArr_set] at h1, own_other h.tv _ (fun e => by have := own_base h.tv _ e; simp at this; omega) _, ?_⟩
  rcases h.lf with h1 | ⟨gl, cap, tail, rfl, h1, hbl⟩
  · exact .inl h1
  · exact .inr ⟨gl, cap, tail, rfl, h1, hbl.other (by show w.heap.size + 1 ≠ gl; omega) _⟩
end
/-- The list of all logs is sorted. -/
theorem F1.sorted {w W W' : World} {g : Nat} {L : Int} {A : Option Addr} {n c : Nat} {g0 cap : Nat} {l : List Nat} {tail : List Value} (h : F1 w W g L A n c n (.slice (some ⟨g0, 0, none⟩) n cap)) (hgl : g < w.heap.size) (hg0 : w.heap.size + 1 + 1 ≤ g0) (hc : n ≤ cap) (hl : l.length = n) (hS : SR W W' g0 l tail) : F2 w W' g L A n c (fun _ => 0) (.slice none 0 0) [] l (.slice (some ⟨g0, 0, none⟩) n cap) :=
  ⟨h.fv.grown hS.gr (by omega) (by omega), h.hrs.grown hS.gr (by simp; omega), World.ownsRow_nil _ _ _ _, .inr ⟨g0, cap, tail, by rw [hl], ⟨hg0, by omega⟩, hS.blk⟩⟩
set_option maxRecDepth 100000 in
set_option maxHeartbeats 8000000 in
theorem fill_any (g : Nat) (L : Nat) (A : Option Addr) (c : Nat) (rs : List Rg) (w : World) (hv : Blk w g 87 #[.int .i64 (L : Int), .slice A rs.length c]) (hs : Sl 2 encR w w.heap.size A rs.length c rs) (hr : RsOk rs) (hL : 1 ≤ L ∧ L ≤ 10) :
    Calls Try.prog 65 #[.pointer (some ⟨g, 0, none⟩)] w fun e w' => ∃ v l ts H, e = .returned (.tuple #[v, .slice (some ⟨w.heap.size + 1, 0, none⟩) rs.length rs.length]) ∧ Below w.heap.size w w' ∧ FillOk rs L l ts H ∧ w'.ownsRow w.heap.size 2 1 v ts.length (ts.map (.int .i64)) ∧ Blk w' (w.heap.size + 1) 2 (numArr rs.length H) := by
  have hn := hr.1
  have hmk := fun W : World => make_longs rs.length (by omega) W
  have hgl := hv.lt
  have hb1 := Blk.new (w.alloc (.cells #[.pointer (some ⟨g, 0, none⟩)] 70)) 2 (numArr rs.length fun _ => 0)
  rw [World.size_alloc] at hb1
  have hF1 : F1 w ((w.alloc (.cells #[.pointer (some ⟨g, 0, none⟩)] 70)).alloc (.cells (numArr rs.length fun _ => 0) 2)) g L A rs.length c 0 (.slice none 0 0) := ⟨⟨balloc (balloc (brefl w) _) _, (Blk.new w _ _).alloc _, (hv.alloc _).alloc _⟩, hb1, .inl ⟨rfl, rfl⟩⟩
  have HF1 := Lib.hid hF1
  have Hs := Lib.hid hs
  have Hr := Lib.hid hr
  have v0 := hv.cell 0
  have v1 := hv.cell 1
  clear hb1 hF1 hs hr hv
  obtain ⟨n, hnn⟩ : ∃ n, rs.length = n := ⟨_, rfl⟩
  rw [hnn] at hn hmk HF1 Hs v1 ⊢
  have Hn := Lib.hid hnn
  clear hnn
  go_enter Try.func65, Try.ntmps65
  go_wp2_with fail
  generalize (w.alloc (.cells #[.pointer (some ⟨g, 0, none⟩)] 70)).alloc (.cells (numArr n fun _ => 0) 2) = W0 at *
  clear v0 v1 hmk
  refine loop_n (fun m a W => a.defers = [] ∧ ∃ (i : Nat) (v : Value), i + m = n ∧ F1 w W g L A n c i v ∧ Fits (none :: some (.pointer (some ⟨w.heap.size, 0, none⟩)) :: none :: none :: some (.slice none 0 0) :: some (.slice (some ⟨w.heap.size + 1, 0, none⟩) n n) :: some (v) :: none :: none :: none :: none :: none :: none :: none :: none :: none :: none :: none :: none :: none :: none :: none :: none :: none :: none :: some (.int .i64 (n : Int)) :: some (.int .i64 (i : Nat)) :: none :: none :: none :: none :: none :: none :: none :: none :: none :: none :: none :: none :: none :: none :: none :: none :: none :: none :: none :: none :: none :: none :: none :: none :: none :: none :: none :: none :: none :: none :: none :: none :: none :: none :: none :: none :: none :: none :: none :: none :: none :: none :: none :: none :: none :: none :: none :: none :: none :: none :: none :: none :: none :: none :: none :: none :: none :: none :: none :: none :: none :: none :: none :: none :: none :: none :: none :: none :: none :: none :: none :: none :: none :: []) a.tmps.toList) n ?_ ?_
  · refine ⟨rfl, 0, _, by omega, HF1.out, ?_⟩
    repeat (first | exact fits_nil | refine fits_none ?_ | refine fits_some ?_)
  clear HF1
  clear W0
  intro m a W hI K hK
  obtain ⟨hds, i, v, him, hF, hfit⟩ := hI
  obtain ⟨f, hf⟩ := fits_act hfit
  rw [hds] at hf
  subst hf
  clear hfit hds
  simp only [fillP, Nat.reduceAdd]
  by_cases hlt : i < n
  · have i1 : (i : Int) < (n : Int) := by omega
    have i2 : (0 : Int) ≤ (i : Int) := by omega
    have i3 : IntKind.i64.wrap ((i : Int) + 1) = (i : Int) + 1 := by rw [IntKind.wrap_i64]; omega
    rcases hF.lf with ⟨h0, rfl⟩ | ⟨g0, cap, tail, rfl, ⟨hg0, hic⟩, hblk2⟩
    · obtain rfl : i = 0 := by simpa using h0
      have Hold := Lib.hid (show ∀ W2, Below W.heap.size W W2 → ∀ b, (none : Option Addr) = some b → ∀ j u, ((List.range 0).map encN)[j]? = some u → W2.cell? (b.add j) = some u from fun _ _ b h => by cases h)
      obtain ⟨i0, hi0, hz0, hz1, hz2⟩ := info_parts info_int
      have hF2 := hF.later (balloc (brefl W) (.cells #[.int .i64 0] 3))
      have zW := hF.hrs.lt
      have HF2 := Lib.hid hF2
      clear hF hF2
      go_wp2_with (at_builtin; refine wpList_append_grows _ rfl _ _ 44 rfl 3 i0 (.int .i64 0) 1 8 und_ints hi0 hz0 hz1 hz2 rfl (by decide) _ 0 0 ((List.range 0).map encN) rfl (by simp) (by simp) (Hold.out _ (balloc (brefl W) (.cells #[.int .i64 0] 3))) ⟨W.heap.size, 0, none⟩ 1 1 [.int .i64 0] rfl rfl (one_new _ _ _) (by simp [Value.oneCell']) (by omega) (by simp only [maxLen]; omega) (by omega) ?_; intro v' W3 hown' hgr; have HF3 := Lib.hid (HF2.out.own (by simp; omega) hgr hown'); clear hown' hgr)
      refine hK _ _ (m - 1) (by omega) ⟨rfl, 0 + 1, v', by omega, HF3.out, ?_⟩
      repeat (first | exact fits_nil | refine fits_none ?_ | refine fits_some ?_)
    · rw [List.length_range] at hF hic ⊢
      have i5 : (i : Int) ≤ (cap : Int) := by omega
      have Hold := Lib.hid (show ∀ W2, Below W.heap.size W W2 → ∀ b, (some ⟨g0, 0, none⟩ : Option Addr) = some b → ∀ j u, ((List.range i).map encN)[j]? = some u → W2.cell? (b.add j) = some u from fun W2 hb b h j u hu => by
        cases h
        have hadd : (⟨g0, 0, none⟩ : Addr).add j = ⟨g0, j, none⟩ := by unfold Addr.add; split <;> simp_all
        rw [hadd, (hblk2.later hb).cell]
        obtain ⟨x, hx, rfl⟩ := List.getElem?_map .. ▸ hu |> Option.map_eq_some_iff.1
        exact lArr_get hx)
      obtain ⟨i0, hi0, hz0, hz1, hz2⟩ := info_parts info_int
      have hF2 := hF.later (balloc (brefl W) (.cells #[.int .i64 i] 3))
      have zW := hF.hrs.lt
      have HF2 := Lib.hid hF2
      clear hF hF2 hblk2
      go_wp2_with (at_builtin; refine wpList_append_grows _ rfl _ _ 44 rfl 3 i0 (.int .i64 0) 1 8 und_ints hi0 hz0 hz1 hz2 rfl (by decide) _ i i ((List.range i).map encN) rfl (by simp) (by simp) (Hold.out _ (balloc (brefl W) (.cells #[.int .i64 i] 3))) ⟨W.heap.size, 0, none⟩ 1 1 [.int .i64 (i : Int)] rfl rfl (one_new _ _ _) (by simp [Value.oneCell']) (by omega) (by simp only [maxLen]; omega) (by omega) ?_; intro v' W3 hown' hgr; have HF3 := Lib.hid (HF2.out.own (by simp; omega) hgr hown'); clear hown' hgr)
      refine hK _ _ (m - 1) (by omega) ⟨rfl, i + 1, v', by omega, HF3.out, ?_⟩
      repeat (first | exact fits_nil | refine fits_none ?_ | refine fits_some ?_)
  · obtain rfl : i = n := by omega
    clear hK
    rcases hF.lf with ⟨h0, rfl⟩ | ⟨g0, cap, tail, rfl, ⟨hg0, hic⟩, hblk2⟩
    · obtain rfl : i = 0 := by simpa using h0
      have HF := Lib.hid hF
      clear hF h0
      go_wp2_with fail
      refine (sortStable_nil _ _).mono ?_
      rintro e w1 ⟨rfl, hb1⟩
      have HF1 := Lib.hid (HF.out.later hb1)
      clear hb1 HF
      go_wp2_with fail
      refine wp_loop_rounds 1 ?_
      rw [rounds_succ]
      go_wp2
      go_ret2
      refine ⟨_, [], [], fun _ => 0, rfl, HF1.out.fv.bel, ⟨?_, List.Pairwise.nil, ?_, ?_⟩, World.ownsRow_nil _ _ _ _, HF1.out.hrs⟩
      · rw [Hn.out]; exact List.Perm.refl _
      · rw [Hn.out]; rfl
      · rw [Hn.out]; rfl
    · rw [List.length_range] at hF hic ⊢
      have hsort := sortStable_any 82 #[.pointer (some ⟨w.heap.size, 0, none⟩)] (enters_of Try.func82 (by kernel_rfl) rfl) (cfR rs) g0 cap (List.range i) tail W hblk2 (by rw [List.length_range]; omega) (fun x y z h1 h2 => by unfold cfR at *; omega) (fun x y h => by unfold cfR at *; omega) (fun x y W' hx hy hg => by
        have h1 := hF.fv.grown hg (by omega) (by omega)
        rw [← Hn.out] at h1
        exact fillCmp_any h1 (by rw [Hn.out]; exact Hs.out) (Nat.le_refl _) Hr.out (by rw [Hn.out]; exact List.mem_range.1 hx) (by rw [Hn.out]; exact List.mem_range.1 hy))
      rw [List.length_range] at hsort
      have HSo := Lib.hid hsort
      have HF := Lib.hid hF
      clear hF hsort hblk2
      go_wp2_with fail
      refine HSo.out.mono ?_
      rintro e w1 ⟨rfl, l, hperm, hsrt, hS⟩
      have hll : l.length = i := by rw [hperm.length_eq, List.length_range]
      have HF2 := Lib.hid (HF.out.sorted hgl hg0 hic hll hS)
      have Hp := Lib.hid hperm
      have Hmem := Lib.hid (show ∀ x ∈ l, x < rs.length from fun x hx => by rw [Hn.out]; exact List.mem_range.1 (hperm.mem_iff.1 hx))
      have Hsr := Lib.hid (show l.Pairwise fun a b => hiAt rs a ≤ hiAt rs b from List.pairwise_iff_getElem.2 fun p q hp hq hpq => by
        have := hsrt p q _ _ hpq hq (List.getElem?_eq_getElem hp) (List.getElem?_eq_getElem hq)
        unfold cfR at this; omega)
      have Hll := Lib.hid hll
      obtain ⟨T, hT⟩ : ∃ T, Fill.fillL (loAt rs) (hiAt rs) L i l = T := ⟨_, rfl⟩
      obtain ⟨HT, hHT⟩ : ∃ HT, asg (Fill.fillA (loAt rs) (hiAt rs) L i l) (fun _ => 0) = HT := ⟨_, rfl⟩
      have HTe := Lib.hid hT
      have HHT := Lib.hid hHT
      clear hperm hsrt hS hll hT hHT HF HSo
      clear W
      go_wp2_with fail
      refine loop_n (fun m a W => a.defers = [] ∧ ∃ (left : List Nat) (lv : Value) (ts : List Int) (tv : Value) (H : Nat → Int), left.length ≤ m ∧ Hid (left.Sublist l) ∧ Hid (ts ++ Fill.fillL (loAt rs) (hiAt rs) L m left = T) ∧ Hid (asg (Fill.fillA (loAt rs) (hiAt rs) L m left) H = HT) ∧ F2 w W g L A i c H tv ts left lv ∧ Fits (none :: some (.pointer (some ⟨w.heap.size, 0, none⟩)) :: none :: none :: some (tv) :: some (.slice (some ⟨w.heap.size + 1, 0, none⟩) i i) :: some (lv) :: none :: none :: none :: none :: none :: none :: none :: none :: none :: none :: none :: none :: none :: none :: none :: none :: none :: none :: none :: none :: none :: none :: none :: none :: none :: none :: none :: none :: none :: none :: none :: none :: none :: none :: none :: none :: none :: none :: none :: none :: none :: none :: none :: none :: none :: none :: none :: none :: none :: none :: none :: none :: none :: none :: none :: none :: none :: none :: none :: none :: none :: none :: none :: none :: none :: none :: none :: none :: none :: none :: none :: none :: none :: none :: none :: none :: none :: none :: none :: none :: none :: none :: none :: none :: none :: none :: none :: none :: none :: none :: none :: none :: none :: []) a.tmps.toList) i ?_ ?_
      · refine ⟨rfl, l, _, [], _, _, by rw [Hll.out]; omega, Lib.hid (List.Sublist.refl _), Lib.hid (by rw [HTe.out]; rfl), Lib.hid HHT.out, HF2.out, ?_⟩
        repeat (first | exact fits_nil | refine fits_none ?_ | refine fits_some ?_)
      clear HF2
      clear w1
      intro m a W hI K hK
      obtain ⟨hds, left, lv, ts, tv, H, hlm, hsub, hTs, hAs, hF, hfit⟩ := hI
      obtain ⟨f, hf⟩ := fits_act hfit
      rw [hds] at hf
      subst hf
      clear hfit hds
      simp only [fillP, Nat.reduceAdd]
      have HF := Lib.hid hF
      cases left with
      | nil =>
        have hlv : ∃ ao cap, lv = .slice ao 0 cap := by
          rcases hF.lf with ⟨_, rfl⟩ | ⟨gl, cap, tail, rfl, _⟩
          · exact ⟨_, _, rfl⟩
          · exact ⟨_, _, rfl⟩
        obtain ⟨ao, cap2, rfl⟩ := hlv
        have hT : ts = T := by have h1 := hTs.out; unfold Fill.fillL at h1; cases m <;> simpa using h1
        have hH : H = HT := by have h1 := hAs.out; unfold Fill.fillA at h1; cases m <;> exact h1
        subst hT hH
        clear hK hF hTs hAs hsub hlm
        go_wp2
        go_ret2
        refine ⟨_, l, ts, H, rfl, HF.out.fv.bel, ⟨?_, Hsr.out, ?_, ?_⟩, own_low HF.out.tv (by omega), HF.out.hrs⟩
        · rw [Hn.out]; exact Hp.out
        · rw [Hn.out, HTe.out]
        · rw [Hn.out, HHT.out]
      | cons x l2 =>
        obtain ⟨gl, cap2, x', rfl, hgl2, hglW, hx', hcx⟩ := hF.lf.at_ (i := 0) (by simp)
        obtain rfl : x = x' := by simpa using hx'
        have hxn : x < rs.length := Hmem.out x (hsub.out.subset (by simp))
        obtain ⟨a0, a1, a2⟩ := Hr.out.at_ hxn
        have hs2 := Hs.out.later hF.fv.bel
        rw [← Hn.out] at hs2
        obtain ⟨rb, ro, u, rfl, hrb, hu, gx0, gx1⟩ := hs2.ltR hxn
        obtain ⟨t, ht⟩ : ∃ t, hiAt rs x = t := ⟨_, rfl⟩
        have hut : u.hi = t := by rw [← hiAt_eq hu]; exact ht
        rw [hut] at gx1
        rw [ht] at a1 a2
        obtain ⟨m', rfl⟩ : ∃ m', m = m' + 1 := ⟨m - 1, by simp at hlm; omega⟩
        have hlm' : l2.length ≤ m' := by simpa using hlm
        have hst : Fill.fillL (loAt rs) (hiAt rs) L (m' + 1) (x :: l2) = t :: Fill.fillL (loAt rs) (hiAt rs) L m' (Fill.takeL (loAt rs) t L (x :: l2)).2 := by rw [← ht]; rfl
        have hsa : Fill.fillA (loAt rs) (hiAt rs) L (m' + 1) (x :: l2) = (Fill.takeL (loAt rs) t L (x :: l2)).1.map (fun y => (y, t)) ++ Fill.fillA (loAt rs) (hiAt rs) L m' (Fill.takeL (loAt rs) t L (x :: l2)).2 := by rw [← ht]; rfl
        have hshort : (Fill.takeL (loAt rs) t L (x :: l2)).2.length ≤ m' := by
          obtain ⟨L', rfl⟩ : ∃ L', L = L' + 1 := ⟨L - 1, by omega⟩
          have h1 : (Fill.takeL (loAt rs) t (L' + 1) (x :: l2)).2 = (Fill.takeL (loAt rs) t L' l2).2 := by
            conv => lhs; unfold Fill.takeL
            rw [if_neg (by omega)]
          rw [h1]
          exact Nat.le_trans (Fill.takeL_sub (loAt rs) t l2 L').length_le hlm'
        have HTs := Lib.hid hTs.out
        have HAs := Lib.hid hAs.out
        rw [hst] at HTs
        rw [hsa] at HAs
        have Hshort := Lib.hid hshort
        have Hsub := Lib.hid (show ∀ y ∈ x :: l2, y < rs.length from fun y hy => Hmem.out y (hsub.out.subset hy))
        have Hsub2 := Lib.hid (show (Fill.takeL (loAt rs) t L (x :: l2)).2.Sublist l from (Fill.takeL_sub (loAt rs) t (x :: l2) L).trans hsub.out)
        have hlen2 : (x :: l2).length ≤ i := by have := hsub.out.length_le; rw [Hll.out] at this; exact this
        obtain ⟨ll, hll⟩ : ∃ ll, x :: l2 = ll := ⟨_, rfl⟩
        rw [hll] at hF HF HTs HAs Hshort Hsub Hsub2 hlen2 ⊢
        have hl0 : 0 < ll.length := by rw [← hll]; simp
        have hl0' : (0 : Int) < (ll.length : Int) := by omega
        have i1 : (x : Int) < (i : Int) := by rw [← Hn.out]; omega
        have i2 : (0 : Int) ≤ (x : Int) := by omega
        obtain ⟨m0, m1, m2, ml, mg⟩ := hF.fv.cells
        have HF0 := Lib.hid hF
        clear hF HF hTs hAs hsub hlm hlm' hst hsa hshort hx' hxn hs2 hu hut ht a0 a1 gx0 hll
        clear l2
        go_wp2_with fail
        refine wp_scope_straight ?_
        go_wp2_with fail
        refine dag 12 (by kernel_rfl) (by kernel_rfl) (.is ?_ :: .is ?_ :: .is ?_ :: .is ?_ :: .is ?_ :: .is ?_ :: .is ?_ :: .is ?_ :: .is ?_ :: .is ?_ :: .is ?_ :: .is ?_ :: []) rfl ?st1 ?ob1
        case st1 => simp [Spec.ok]
        case ob1 =>
          intro env W' hG
          obtain ⟨hc, hf⟩ := bcell hG
          repeat (refine obls_is ?_ ?_; unfold doesAt; go_simp; (try go_bits); (first | (refine ⟨brefl _, ?_⟩; rfl) | rfl); intro K hK; go_simp; refine hK _ ?_; clear hK K)
          refine obls_nil (fun _ => ?_)
          have hF := HF0.out.later hG
          have HF1 := Lib.hid (hF.later (balloc (brefl W') (.cells #[.int .i64 t] 2)))
          have htl : ts.length ≤ i := by
            have h1 := congrArg List.length HTs.out
            have h2 := fillL_len (loAt rs) (hiAt rs) L i l
            rw [HTe.out] at h2
            rw [List.length_append] at h1
            omega
          obtain ⟨i0, hi0, hz0, hz1, hz2⟩ := info_parts info_long
          clear hc hf hG hF m0 m1 m2 ml mg hcx gx1
          clear HF0
          go_wp2_with (at_builtin; refine wpList_append_own _ rfl _ _ 25 rfl (w.heap.size + 1 + 1) 2 i0 (.int .i64 0) 1 8 und_longs hi0 hz0 hz1 hz2 rfl (by decide) tv ts.length _ rfl HF1.out.tv ⟨W'.heap.size, 0, none⟩ 1 1 [.int .i64 t] rfl rfl (one_new _ _ _) (by simp [Value.oneCell']) (by simp only [maxLen]; omega) (by omega) (by have := HF1.out.hrs.lt; omega) ?_; intro tv' W3 hown' hgr _; have HF3 := Lib.hid (HF1.out.load hgl hgr hown'); have Htv := Lib.hid (own_lt hown'); obtain ⟨m0, m1, m2, ml, mg⟩ := HF3.out.fv.cells; clear hown' hgr)
          refine wp_label ?_
          go_wp2_with fail
          have HB1 := Lib.hid (show w.heap.size + 1 + 1 ≤ W3.heap.size ∧ (∀ b, tv'.ownBlock = some b → b < W3.heap.size) ∧ (∀ b, (Value.slice (some ⟨gl, 0, none⟩) ll.length cap2).ownBlock = some b → b < W3.heap.size) from by
            refine ⟨by have := HF3.out.hrs.lt; omega, Htv.out, fun b hb => ?_⟩
            rcases HF3.out.lf with ⟨h0, _⟩ | ⟨gl', cap', tail', he, _, hbl⟩
            · rw [h0] at hl0; simp at hl0
            · simp only [Value.slice.injEq, Option.some.injEq, Addr.mk.injEq, and_true, true_and] at he
              simp only [Value.ownBlock, Option.some.injEq] at hb
              have := hbl.lt
              omega)
          obtain ⟨B1, hB1⟩ : ∃ B1, W3.heap.size = B1 := ⟨_, rfl⟩
          rw [hB1] at HB1
          have HZ := Lib.hid hB1
          obtain ⟨NX, hNX⟩ : ∃ NX, (Fill.takeL (loAt rs) t L ll).2 = NX := ⟨_, rfl⟩
          obtain ⟨HX, hHX⟩ : ∃ HX, asg ((Fill.takeL (loAt rs) t L ll).1.map fun y => (y, t)) H = HX := ⟨_, rfl⟩
          rw [hNX] at HTs HAs Hshort Hsub2
          have HAs2 := Lib.hid (show asg (Fill.fillA (loAt rs) (hiAt rs) L m' NX) HX = HT by rw [← hHX, ← HAs.out]; unfold asg; rw [List.foldl_append])
          have HNX := Lib.hid hNX
          have HHX := Lib.hid hHX
          clear hB1 hNX hHX HF1 HAs m0 m1 m2 ml mg
          clear hi0 hz0 hz1 hz2 i0
          refine loop_n (fun r a W => a.defers = [] ∧ ∃ (k : Nat) (rm : Nat) (nx : List Nat) (nv : Value) (H' : Nat → Int), k + r = ll.length ∧ rm ≤ L ∧ nx.length ≤ k ∧ Hid (nx ++ (Fill.takeL (loAt rs) t rm (ll.drop k)).2 = NX) ∧ Hid (asg ((Fill.takeL (loAt rs) t rm (ll.drop k)).1.map fun y => (y, t)) H' = HX) ∧ F2 w W g L (some ⟨rb, ro, none⟩) i c H' tv' (ts ++ [t]) ll (.slice (some ⟨gl, 0, none⟩) ll.length cap2) ∧ W.ownsRow B1 3 1 nv nx.length (nx.map encN) ∧ B1 ≤ W.heap.size ∧ Fits (none :: some (.pointer (some ⟨w.heap.size, 0, none⟩)) :: none :: none :: some (tv') :: some (.slice (some ⟨w.heap.size + 1, 0, none⟩) i i) :: none :: none :: some (.int .i64 t) :: some (nv) :: some (.int .i64 (rm : Nat)) :: none :: none :: none :: none :: none :: none :: none :: none :: none :: none :: none :: none :: none :: none :: none :: none :: none :: none :: none :: none :: none :: none :: none :: none :: none :: none :: none :: none :: none :: none :: none :: none :: none :: none :: none :: none :: none :: none :: none :: none :: none :: none :: none :: none :: none :: none :: none :: none :: none :: none :: none :: none :: none :: none :: some (.slice (some ⟨gl, 0, none⟩) ll.length cap2) :: some (.int .i64 (ll.length : Nat)) :: some (.int .i64 (k : Nat)) :: none :: none :: none :: none :: none :: none :: none :: none :: none :: none :: none :: none :: none :: none :: none :: none :: none :: none :: none :: none :: none :: none :: none :: none :: none :: none :: none :: none :: none :: none :: none :: none :: []) a.tmps.toList) ll.length ?_ ?_
          · refine ⟨rfl, 0, L, [], _, H, by omega, Nat.le_refl _, by simp, Lib.hid (by simpa using HNX.out), Lib.hid (by simpa using HHX.out), HF3.out, World.ownsRow_nil _ _ _ _, Nat.le_of_eq HZ.out.symm, ?_⟩
            repeat (first | exact fits_nil | refine fits_none ?_ | refine fits_some ?_)
          clear HF3 HZ HNX HHX Htv
          clear W3
          intro r a W hI K2 hK2
          obtain ⟨hds, k, rm, nx, nv, H', hkr, hrm, hnxk, hNx, hHx, hF, hnv, hBW, hfit⟩ := hI
          obtain ⟨f, hf⟩ := fits_act hfit
          rw [hds] at hf
          subst hf
          clear hfit hds
          simp only [fillP, Nat.reduceAdd]
          have HF := Lib.hid hF
          have Hnv := Lib.hid hnv
          by_cases hlt : k < ll.length
          · obtain ⟨gl', cap', y, he, _, hglW, hy, hcy⟩ := hF.lf.at_ hlt
            simp only [Value.slice.injEq, Option.some.injEq, Addr.mk.injEq, and_true, true_and] at he
            obtain ⟨rfl, rfl⟩ := he
            have hyn : y < rs.length := Hsub.out y (List.mem_of_getElem? hy)
            have hdr : ll.drop k = y :: ll.drop (k + 1) := by
              obtain ⟨h1, h2⟩ := List.getElem?_eq_some_iff.1 hy
              rw [List.drop_eq_getElem_cons h1, h2]
            rw [hdr] at hNx hHx
            have hs2 := Hs.out.later hF.fv.bel
            rw [← Hn.out] at hs2
            obtain ⟨rb', ro', u, hA, hrb, hu, gx0, gx1⟩ := hs2.ltR hyn
            simp only [Option.some.injEq, Addr.mk.injEq, and_true] at hA
            obtain ⟨rfl, rfl⟩ := hA
            have hlo := loAt_eq hu
            obtain ⟨m0, m1, m2, ml, mg⟩ := hF.fv.cells
            have j1 : (k : Int) < (ll.length : Int) := by omega
            have j2 : (0 : Int) ≤ (k : Int) := by omega
            have j3 : IntKind.i64.wrap ((k : Int) + 1) = (k : Int) + 1 := by rw [IntKind.wrap_i64]; omega
            have j4 : (y : Int) < (i : Int) := by rw [← Hn.out]; omega
            have j5 : (0 : Int) ≤ (y : Int) := by omega
            have hh0 := hF.hrs.lt
            have hh1 := hF.hrs.frozen y
            have hh2 := (hF.hrs.cell y).trans (numArr_get (by rw [← Hn.out]; exact hyn))
            cases rm with
            | zero =>
              have hNy := Lib.hid (show (nx ++ [y]) ++ (Fill.takeL (loAt rs) t 0 (ll.drop (k + 1))).2 = NX by rw [← hNx.out, Fill.takeL_zero, Fill.takeL_zero]; simp)
              have hHy := Lib.hid (show asg ((Fill.takeL (loAt rs) t 0 (ll.drop (k + 1))).1.map fun y => (y, t)) H' = HX by rw [← hHx.out, Fill.takeL_zero, Fill.takeL_zero])
              clear hNx hHx hy hdr hs2 hu hlo
              obtain ⟨i0, hi0, hz0, hz1, hz2⟩ := info_parts info_int
              have HFa := Lib.hid (HF.out.later (balloc (brefl W) (.cells #[.int .i64 (y : Int)] 3)))
              have Hna := Lib.hid (own_later Hnv.out (balloc (brefl W) (.cells #[.int .i64 (y : Int)] 3)))
              have Hfin := Lib.hid (fun (nv' : Value) (W3 : World) (ho : W3.ownsRow B1 3 1 nv' (nx.length + 1) (nx.map encN ++ [.int .i64 (y : Int)])) (hg : (W.alloc (.cells #[.int .i64 (y : Int)] 3)).grownBy W3 nv.ownBlock) => (⟨HFa.out.next hgl HB1.out.1 HB1.out.2.1 HB1.out.2.2 (own_base Hna.out) hg, by have h := ho; rw [show nx.map encN ++ [.int .i64 (y : Int)] = (nx ++ [y]).map encN by rw [List.map_append]; rfl] at h; simpa using h, by have := hg.size; simp at this; omega⟩ : F2 w W3 g L (some ⟨rb, ro, none⟩) i c H' tv' (ts ++ [t]) ll (.slice (some ⟨gl, 0, none⟩) ll.length cap2) ∧ W3.ownsRow B1 3 1 nv' (nx ++ [y]).length ((nx ++ [y]).map encN) ∧ B1 ≤ W3.heap.size))
              clear hF hnv HF Hnv
              go_wp2_with (at_builtin; refine wpList_append_own _ rfl _ _ 44 rfl B1 3 i0 (.int .i64 0) 1 8 und_ints hi0 hz0 hz1 hz2 rfl (by decide) nv nx.length _ rfl Hna.out ⟨W.heap.size, 0, none⟩ 1 1 [.int .i64 (y : Int)] rfl rfl (one_new _ _ _) (by simp [Value.oneCell']) (by simp only [maxLen]; omega) (by omega) (by simp; omega) ?_; intro nv' W3 hown' hgr _; have Hn3 := Lib.hid (Hfin.out nv' W3 hown' hgr); clear hown' hgr)
              refine hK2 _ _ (r - 1) (by omega) ⟨rfl, k + 1, 0, nx ++ [y], nv', H', by omega, by omega, by simpa using hnxk, Lib.hid hNy.out, Lib.hid hHy.out, Hn3.out.1, Hn3.out.2.1, Hn3.out.2.2, ?_⟩
              repeat (first | exact fits_nil | refine fits_none ?_ | refine fits_some ?_)
            | succ rm =>
              have j6 : ¬ ((rm : Int) + 1 = 0) := by omega
              have j7 : (((rm : Int) + 1) == 0) = false := by simpa using j6
              cases hd : decide (t < u.lo) with
              | true =>
                have hd' : t < u.lo := of_decide_eq_true hd
                have hNy := Lib.hid (show (nx ++ [y]) ++ (Fill.takeL (loAt rs) t (rm + 1) (ll.drop (k + 1))).2 = NX by
                  rw [← hNx.out]
                  conv => rhs; unfold Fill.takeL
                  rw [if_pos (by rw [hlo]; exact hd')]; simp)
                have hHy := Lib.hid (show asg ((Fill.takeL (loAt rs) t (rm + 1) (ll.drop (k + 1))).1.map fun y => (y, t)) H' = HX by
                  rw [← hHx.out]
                  conv => rhs; unfold Fill.takeL
                  rw [if_pos (by rw [hlo]; exact hd')])
                clear hNx hHx hy hdr hs2 hu hlo hd'
                obtain ⟨i0, hi0, hz0, hz1, hz2⟩ := info_parts info_int
                have HFa := Lib.hid (HF.out.later (balloc (brefl W) (.cells #[.int .i64 (y : Int)] 3)))
                have Hna := Lib.hid (own_later Hnv.out (balloc (brefl W) (.cells #[.int .i64 (y : Int)] 3)))
                have Hfin := Lib.hid (fun (nv' : Value) (W3 : World) (ho : W3.ownsRow B1 3 1 nv' (nx.length + 1) (nx.map encN ++ [.int .i64 (y : Int)])) (hg : (W.alloc (.cells #[.int .i64 (y : Int)] 3)).grownBy W3 nv.ownBlock) => (⟨HFa.out.next hgl HB1.out.1 HB1.out.2.1 HB1.out.2.2 (own_base Hna.out) hg, by have h := ho; rw [show nx.map encN ++ [.int .i64 (y : Int)] = (nx ++ [y]).map encN by rw [List.map_append]; rfl] at h; simpa using h, by have := hg.size; simp at this; omega⟩ : F2 w W3 g L (some ⟨rb, ro, none⟩) i c H' tv' (ts ++ [t]) ll (.slice (some ⟨gl, 0, none⟩) ll.length cap2) ∧ W3.ownsRow B1 3 1 nv' (nx ++ [y]).length ((nx ++ [y]).map encN) ∧ B1 ≤ W3.heap.size))
                clear hF hnv HF Hnv
                go_wp2_with (at_builtin; refine wpList_append_own _ rfl _ _ 44 rfl B1 3 i0 (.int .i64 0) 1 8 und_ints hi0 hz0 hz1 hz2 rfl (by decide) nv nx.length _ rfl Hna.out ⟨W.heap.size, 0, none⟩ 1 1 [.int .i64 (y : Int)] rfl rfl (one_new _ _ _) (by simp [Value.oneCell']) (by simp only [maxLen]; omega) (by omega) (by simp; omega) ?_; intro nv' W3 hown' hgr _; have Hn3 := Lib.hid (Hfin.out nv' W3 hown' hgr); clear hown' hgr)
                refine hK2 _ _ (r - 1) (by omega) ⟨rfl, k + 1, rm + 1, nx ++ [y], nv', H', by omega, by omega, by simpa using hnxk, Lib.hid hNy.out, Lib.hid hHy.out, Hn3.out.1, Hn3.out.2.1, Hn3.out.2.2, ?_⟩
                repeat (first | exact fits_nil | refine fits_none ?_ | refine fits_some ?_)
              | false =>
                have hd' : ¬ t < u.lo := of_decide_eq_false hd
                have hNy := Lib.hid (show nx ++ (Fill.takeL (loAt rs) t rm (ll.drop (k + 1))).2 = NX by
                  rw [← hNx.out]
                  conv => rhs; unfold Fill.takeL
                  rw [if_neg (by rw [hlo]; exact hd')])
                have hHy := Lib.hid (show asg ((Fill.takeL (loAt rs) t rm (ll.drop (k + 1))).1.map fun y => (y, t)) (updN H' y t) = HX by
                  rw [← hHx.out]
                  conv => rhs; unfold Fill.takeL
                  rw [if_neg (by rw [hlo]; exact hd')]; rfl)
                have j8 : IntKind.i64.wrap ((rm : Int) + 1 - 1) = (rm : Int) := by rw [IntKind.wrap_i64]; omega
                have HFp := Lib.hid (HF.out.put hgl y t)
                have Hnp := Lib.hid (own_other Hnv.out ⟨w.heap.size + 1, y, none⟩ (fun e => by have := own_base Hnv.out _ e; have := HB1.out.1; simp at *; omega) (.int .i64 t))
                clear hNx hHx hy hdr hs2 hu hlo hd' hF hnv HF Hnv
                go_wp2
                refine hK2 _ _ (r - 1) (by omega) ⟨rfl, k + 1, rm, nx, nv, _, by omega, by omega, by omega, Lib.hid hNy.out, Lib.hid hHy.out, HFp.out, Hnp.out, by simp; omega, ?_⟩
                repeat (first | exact fits_nil | refine fits_none ?_ | refine fits_some ?_)
          · obtain rfl : k = ll.length := by omega
            have hnx : nx = NX := by have h1 := hNx.out; rw [List.drop_length] at h1; simpa [Fill.takeL] using h1
            have hhx : H' = HX := by have h1 := hHx.out; rw [List.drop_length] at h1; simpa [Fill.takeL, asg] using h1
            subst hnx hhx
            have HL := Lib.hid (LeftV.own (own_low Hnv.out HB1.out.1))
            have HF4 := Lib.hid (show F2 w W g L (some ⟨rb, ro, none⟩) i c H' tv' (ts ++ [t]) nx nv from ⟨hF.fv, hF.hrs, hF.tv, HL.out⟩)
            clear hK2 hNx hHx hF hnv HF Hnv HL
            go_wp2
            refine hK _ _ m' (by omega) ⟨rfl, nx, nv, ts ++ [t], tv', H', Hshort.out, Lib.hid Hsub2.out, Lib.hid (by rw [← HTs.out]; simp), Lib.hid HAs2.out, HF4.out, ?_⟩
            repeat (first | exact fits_nil | refine fits_none ?_ | refine fits_some ?_)
end Go.Proofs.Ytbbdlebmagknmaa
