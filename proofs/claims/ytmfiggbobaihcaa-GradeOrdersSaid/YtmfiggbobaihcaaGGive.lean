/- The store's give: what orders get. -/
import Derived.Test.YtmfiggbobaihcaaGMap
namespace Go.Proofs.Ytmfiggbobaihcaa
open Go.RowKit Go.Shelf Go.Maps
attribute [local go_sem] Oper.semAt_some

theorem KeepD.kept {W0 W W' : World} (h : KeepD W0 W) (hk : Kept W0.heap.size W W') : KeepD W0 W' := fun k c hc => (hk.low k (Array.getElem?_eq_some_iff.1 hc).1 (Array.getElem?_eq_some_iff.1 (h k c hc)).1).trans (h k c hc)
theorem KeepD.set {W0 W : World} (h : KeepD W0 W) (p : Addr) (u : Value) : KeepD W0 (W.setCell p u) := by
  intro k c hk
  have h1 := h k c hk
  by_cases e : k = p.block
  · subst e
    simp [World.setCell, Array.getElem?_modify, h1]
  · exact (Below.heap_setCell W p u k e).trans h1
theorem KpS.grown {ok : Nat → Prop} {A B : World} {row : Option Nat} (hg : A.grownBy B row) (hr : ∀ r, row = some r → ∃ o, A.heap[r]? = some o ∧ o.isCells = false) : KpS ok A B :=
  ⟨hg.size, fun k c e f _ hk => (hg.block k (Array.getElem?_eq_some_iff.1 hk).1 (fun e' => by
    obtain ⟨o, ho, hc⟩ := hr k e'.symm
    rw [hk] at ho; cases ho; simp [Obj.isCells] at hc)).trans hk⟩
theorem KpS.set {ok : Nat → Prop} (W : World) {p : Addr} (hp : ¬ ok p.block) (u : Value) : KpS ok W (W.setCell p u) :=
  ⟨by simp [World.setCell], fun k c e f ho hk => (Below.heap_setCell W p u k (fun e' => hp (e' ▸ ho))).trans hk⟩
def gAt (O : List Od) (i : Nat) : Int := (O.getD i ⟨0, 0⟩).g
def mAt (O : List Od) (i : Nat) : Int := (O.getD i ⟨0, 0⟩).m
theorem gAt_eq {O : List Od} {i : Nat} {x : Od} (h : O[i]? = some x) : gAt O i = x.g := by simp [gAt, List.getD, h]
theorem mAt_eq {O : List Od} {i : Nat} {x : Od} (h : O[i]? = some x) : mAt O i = x.m := by simp [mAt, List.getD, h]
/-- Orders that are valid. -/
def OOk (O : List Od) : Prop := O.length ≤ 8 ∧ ∀ o ∈ O, (0 ≤ o.g ∧ o.g < 5) ∧ 0 ≤ o.m ∧ o.m ≤ 20
theorem OOk.at_ {O : List Od} (h : OOk O) {i : Nat} (hi : i < O.length) : (0 ≤ gAt O i ∧ gAt O i < 5) ∧ 0 ≤ mAt O i ∧ mAt O i ≤ 20 := by
  have hx := List.getElem?_eq_getElem hi
  rw [gAt_eq hx, mAt_eq hx]
  exact h.2 _ (List.getElem_mem hi)
/-- The box of the store's pointer, and the store. -/
structure GV (w W : World) (T : Nat) (SA : Option Addr) (sn sc : Nat) (PA : Option Addr) (pn pc : Nat) (OA : Option Addr) (on oc : Nat) (M : Nat → Int) : Prop where
  bel : Below w.heap.size w W
  b0 : Blk W w.heap.size 74 #[.pointer (some ⟨T, 0, none⟩)]
  v0 : Blk W T 83 (stoC SA sn sc PA pn pc OA on oc M)
section
variable {w W W' : World} {T : Nat} {SA : Option Addr} {sn sc : Nat} {PA : Option Addr} {pn pc : Nat} {OA : Option Addr} {on oc : Nat} {M : Nat → Int}
theorem GV.later (h : GV w W T SA sn sc PA pn pc OA on oc M) (hb : Below W.heap.size W W') : GV w W' T SA sn sc PA pn pc OA on oc M := ⟨Below.later h.bel hb, h.b0.later hb, h.v0.later hb⟩
theorem GV.grown (h : GV w W T SA sn sc PA pn pc OA on oc M) (hgl : T < w.heap.size) {row : Option Nat} (hg : W.grownBy W' row) (hr : ∀ b, row = some b → w.heap.size < b) : GV w W' T SA sn sc PA pn pc OA on oc M :=
  ⟨h.bel.trans ⟨hg.os, hg.tape, hg.output, hg.size, fun k hk => hg.block k (by have := h.b0.lt; omega) (fun e => by have := hr k e.symm; omega)⟩, h.b0.grown hg (fun e => by have := hr _ e; omega), h.v0.grown hg (fun e => by have := hr _ e; omega)⟩
theorem GV.set (h : GV w W T SA sn sc PA pn pc OA on oc M) (hgl : T < w.heap.size) {p : Addr} (hp : w.heap.size < p.block) (u : Value) : GV w (W.setCell p u) T SA sn sc PA pn pc OA on oc M :=
  ⟨h.bel.setCell (by omega) _, h.b0.other (by omega) _, h.v0.other (by omega) _⟩
theorem GV.cells (h : GV w W T SA sn sc PA pn pc OA on oc M) : (W.cell? ⟨w.heap.size, 0, none⟩ = some (.pointer (some ⟨T, 0, none⟩)) ∧ W.cell? ⟨T, 2, none⟩ = some (.slice OA on oc)) ∧ w.heap.size < W.heap.size ∧ T < W.heap.size := ⟨⟨h.b0.cell 0, h.v0.cell 2⟩, h.b0.lt, h.v0.lt⟩
end
def cfG (O : List Od) (x y : Nat) : Int := gAt O x - gAt O y
set_option maxRecDepth 100000 in
set_option maxHeartbeats 4000000 in
theorem giveCmp_any {w W : World} {T : Nat} (SA : Option Addr) (sn sc : Nat) (PA : Option Addr) (pn pc : Nat) (OA : Option Addr) (on oc : Nat) (S P : List Int) (O : List Od) {M : Nat → Int} (hF : GV w W T SA sn sc PA pn pc OA on oc M) (hs : ShopIn w w.heap.size SA sn sc PA pn pc OA on oc S P O) (hO : OOk O) {x y : Nat} (hx : x < O.length) (hy : y < O.length) :
    Calls Try.prog 89 #[.int .i64 (x : Int), .int .i64 (y : Int), .pointer (some ⟨w.heap.size, 0, none⟩)] W fun e W' => e = .returned (.int .i64 (cfG O x y)) ∧ Below W.heap.size W W' := by
  obtain rfl := hs.ord.len
  obtain ⟨⟨m0, m1⟩, ml, mg⟩ := hF.cells
  obtain ⟨⟨a0, a1⟩, _⟩ := hO.at_ hx
  obtain ⟨⟨b0, b1⟩, _⟩ := hO.at_ hy
  have hs2 := (hs.later hF.bel).ord
  obtain ⟨rb, ro, u, rfl, hrb, hu, g1, _⟩ := hs2.ltO hx
  obtain ⟨rb2, ro2, u2, hA, hrb2, hu2, g3, _⟩ := hs2.ltO hy
  simp only [Option.some.injEq, Addr.mk.injEq, and_true] at hA
  obtain ⟨rfl, rfl⟩ := hA
  unfold cfG
  rw [gAt_eq hu] at a0 a1 ⊢
  rw [gAt_eq hu2] at b0 b1 ⊢
  have i1 : (x : Int) < (O.length : Int) := by omega
  have i2 : (0 : Int) ≤ (x : Int) := by omega
  have i3 : (y : Int) < (O.length : Int) := by omega
  have i4 : (0 : Int) ≤ (y : Int) := by omega
  obtain ⟨q, hq⟩ : ∃ q, u.g - u2.g = q := ⟨_, rfl⟩
  have i5 : IntKind.i64.wrap (u.g - u2.g) = q := by rw [IntKind.wrap_i64]; omega
  rw [hq]
  clear hs hs2 hF hu hu2 hO a0 a1 b0 b1 hq
  go_enter Try.func89, Try.ntmps89
  go_wp2_with fail
  refine dag 20 (by kernel_rfl) (by kernel_rfl) (.is ?_ :: .is ?_ :: .is ?_ :: .is ?_ :: .is ?_ :: .is ?_ :: .is ?_ :: .is ?_ :: .is ?_ :: .is ?_ :: .is ?_ :: .is ?_ :: .is ?_ :: .is ?_ :: .is ?_ :: .is ?_ :: .is ?_ :: .is ?_ :: .is ?_ :: .is ?_ :: []) rfl ?st1 ?ob1
  case st1 => simp [Spec.ok]
  case ob1 =>
    intro env W' hG
    obtain ⟨hc, hf⟩ := bcell hG
    repeat (refine obls_is ?_ ?_; unfold doesAt; go_simp; (try go_bits); (first | (refine ⟨brefl _, ?_⟩; rfl) | rfl); intro K hK; go_simp; refine hK _ ?_; clear hK K)
    refine obls_nil (fun _ => ?_)
    have HB := Lib.hid hG
    clear hc hf hG
    go_wp2
    go_ret
    exact ⟨rfl, HB.out⟩
/-! ### What is given, as a plain word -/
structure Gs where
  left : Nat → Int
  want : Int
  F : Nat → Nat → Option Int
def stepG (i : Nat) (s : Gs) (x : Nat) : Gs := ⟨updN s.left x (s.left x - min s.want (s.left x)), s.want - min s.want (s.left x), updF s.F i x (some (min s.want (s.left x)))⟩
def orderG (O : List Od) (s : (Nat → Int) × (Nat → Nat → Option Int)) (i : Nat) : (Nat → Int) × (Nat → Nat → Option Int) :=
  (((downL (gAt O i).toNat).foldl (stepG i) ⟨s.1, mAt O i, s.2⟩).left, ((downL (gAt O i).toNat).foldl (stepG i) ⟨s.1, mAt O i, s.2⟩).F)
def giveG (O : List Od) (M : Nat → Int) (l : List Nat) : (Nat → Int) × (Nat → Nat → Option Int) := l.foldl (orderG O) (M, fun _ _ => none)
/-- The bounds of what is left. -/
def GsOk (s : Gs) : Prop := (∀ j, j < 5 → 0 ≤ s.left j ∧ s.left j ≤ 150) ∧ 0 ≤ s.want ∧ s.want ≤ 20
theorem GsOk.step {s : Gs} (h : GsOk s) (i : Nat) {x : Nat} (hx : x < 5) : GsOk (stepG i s x) := by
  have h1 := h.1 x hx
  refine ⟨fun j hj => ?_, ?_⟩
  · have h2 := h.1 j hj
    show 0 ≤ updN s.left x (s.left x - min s.want (s.left x)) j ∧ updN s.left x (s.left x - min s.want (s.left x)) j ≤ 150
    unfold updN
    have := h.2
    split
    · omega
    · exact h2
  · show 0 ≤ s.want - min s.want (s.left x) ∧ s.want - min s.want (s.left x) ≤ 20
    have := h.2
    omega
theorem GsOk.steps {i : Nat} : ∀ (xs : List Nat) {s : Gs}, GsOk s → (∀ x ∈ xs, x < 5) → GsOk (xs.foldl (stepG i) s)
  | [], _, h, _ => h
  | x :: xs, _, h, hx => GsOk.steps xs (h.step i (hx x (by simp))) fun y hy => hx y (by simp [hy])
/-- While the list of all orders is made: block N the box, N + 1 what is left. -/
structure GL (w W : World) (T : Nat) (SA : Option Addr) (sn sc : Nat) (PA : Option Addr) (pn pc : Nat) (OA : Option Addr) (on oc : Nat) (M : Nat → Int) (i : Nat) (v : Value) : Prop where
  gv : GV w W T SA sn sc PA pn pc OA on oc M
  lf : Blk W (w.heap.size + 1) 81 (ctsA M)
  row : W.ownsRow (w.heap.size + 1 + 1) 3 1 v i ((List.range i).map encN)
section
variable {w W W' : World} {T : Nat} {SA : Option Addr} {sn sc : Nat} {PA : Option Addr} {pn pc : Nat} {OA : Option Addr} {on oc : Nat} {M : Nat → Int} {i : Nat} {v v' : Value}
theorem GL.later (h : GL w W T SA sn sc PA pn pc OA on oc M i v) (hb : Below W.heap.size W W') : GL w W' T SA sn sc PA pn pc OA on oc M i v := ⟨h.gv.later hb, h.lf.later hb, own_later h.row hb⟩
theorem GL.app (h : GL w W T SA sn sc PA pn pc OA on oc M i v) (hgl : T < w.heap.size) (hg : W.grownBy W' v.ownBlock) (ho : W'.ownsRow (w.heap.size + 1 + 1) 3 1 v' (i + 1) ((List.range i).map encN ++ [.int .i64 (i : Int)])) : GL w W' T SA sn sc PA pn pc OA on oc M (i + 1) v' := by
  have hbs := own_base h.row
  refine ⟨h.gv.grown hgl hg (fun b hb => by have := hbs b hb; omega), h.lf.grown hg (fun e => by have := hbs _ e; omega), ?_⟩
  have he : (List.range i).map encN ++ [.int .i64 (i : Int)] = (List.range (i + 1)).map encN := by rw [List.range_succ, List.map_append]; rfl
  rwa [he] at ho
end
/-- What is left, and the sorted list. -/
structure GM (w W : World) (T : Nat) (SA : Option Addr) (sn sc : Nat) (PA : Option Addr) (pn pc : Nat) (OA : Option Addr) (on oc : Nat) (M left : Nat → Int) (l : List Nat) (v : Value) : Prop where
  gv : GV w W T SA sn sc PA pn pc OA on oc M
  lf : Blk W (w.heap.size + 1) 81 (ctsA left)
  ls : LeftV W (w.heap.size + 1 + 1) l v
theorem GM.later {w W W' : World} {T : Nat} {SA : Option Addr} {sn sc : Nat} {PA : Option Addr} {pn pc : Nat} {OA : Option Addr} {on oc : Nat} {M left : Nat → Int} {l : List Nat} {v : Value} (h : GM w W T SA sn sc PA pn pc OA on oc M left l v) (hb : Below W.heap.size W W') : GM w W' T SA sn sc PA pn pc OA on oc M left l v := ⟨h.gv.later hb, h.lf.later hb, h.ls.later hb⟩
set_option maxHeartbeats 1000000 in
theorem sortAll_any {w W : World} {T : Nat} (SA : Option Addr) (sn sc : Nat) (PA : Option Addr) (pn pc : Nat) (OA : Option Addr) (on oc : Nat) (S P : List Int) (O : List Od) {M : Nat → Int} {v : Value} (h : GL w W T SA sn sc PA pn pc OA on oc M O.length v) (hs : ShopIn w w.heap.size SA sn sc PA pn pc OA on oc S P O) (hO : OOk O) (hgl : T < w.heap.size) :
    Calls Try.prog 88 #[v, .func (.func 89) #[] #[.pointer (some ⟨w.heap.size, 0, none⟩)]] W fun e w1 => e = .returned (.tuple #[]) ∧ ∃ l : List Nat, l.Perm (List.range O.length) ∧ (l.Pairwise fun x y => gAt O x ≤ gAt O y) ∧ GM w w1 T SA sn sc PA pn pc OA on oc M M l v := by
  have hlf := LeftV.own (l := List.range O.length) (by rw [List.length_range]; exact h.row)
  rcases hlf with ⟨h0, rfl⟩ | ⟨g0, cap, tail, rfl, ⟨hg0, hic⟩, hblk⟩
  · refine (sortStable_nil _ _).mono ?_
    rintro e w1 ⟨rfl, hb⟩
    refine ⟨rfl, [], ?_, List.Pairwise.nil, h.gv.later hb, h.lf.later hb, .inl ⟨rfl, rfl⟩⟩
    rw [h0]
  · refine (sortStable_any 89 #[.pointer (some ⟨w.heap.size, 0, none⟩)] (enters_of Try.func89 (by kernel_rfl) rfl) (cfG O) g0 cap (List.range O.length) tail W hblk (by have := hO.1; rw [List.length_range]; omega) (fun x y z h1 h2 => by unfold cfG at *; omega) (fun x y h => by unfold cfG at *; omega) (fun x y W' hx hy hg => ?_)).mono ?_
    · exact giveCmp_any _ _ _ _ _ _ _ _ _ S P O (h.gv.grown hgl hg (fun b hb => by cases hb; omega)) hs hO (List.mem_range.1 hx) (List.mem_range.1 hy)
    · rintro e w1 ⟨rfl, l, hperm, hsrt, hS⟩
      have hll : l.length = O.length := by rw [hperm.length_eq, List.length_range]
      refine ⟨rfl, l, hperm, List.pairwise_iff_getElem.2 fun p q hp hq hpq => ?_, h.gv.grown hgl hS.gr (fun b hb => by cases hb; omega), h.lf.grown hS.gr (fun e => by cases e; omega), .inr ⟨g0, cap, tail, by rw [hll, List.length_range], ⟨hg0, by rw [List.length_range] at hic; omega⟩, hS.blk⟩⟩
      have := hsrt p q _ _ hpq hq (List.getElem?_eq_getElem hp) (List.getElem?_eq_getElem hq)
      unfold cfG at this
      omega
theorem ctsA_set (F : Nat → Int) {j : Nat} (hj : j < 5) (v : Int) : (ctsA F).setIfInBounds j (.int .i64 v) = ctsA (updN F j v) := by
  rcases j with _ | _ | _ | _ | _ | j
  · rfl
  · rfl
  · rfl
  · rfl
  · rfl
  · omega
/-- While orders are filled: block mb the map, mb + 1 its variable. -/
structure GR (w W : World) (T : Nat) (SA : Option Addr) (sn sc : Nat) (PA : Option Addr) (pn pc : Nat) (OA : Option Addr) (on oc : Nat) (M left : Nat → Int) (l : List Nat) (v : Value) (mb n : Nat) (F : Nat → Nat → Option Int) : Prop where
  gm : GM w W T SA sn sc PA pn pc OA on oc M left l v
  ob : Blk W (mb + 1) 93 #[.map (some mb)]
  own : ∃ D : DM, OwnsM W mb n D ∧ MapIs D F
  lo : w.heap.size + 1 < mb
  vb : ∀ b, v.ownBlock = some b → b < mb
section
variable {w W W' : World} {T : Nat} {SA : Option Addr} {sn sc : Nat} {PA : Option Addr} {pn pc : Nat} {OA : Option Addr} {on oc : Nat} {M left : Nat → Int} {l : List Nat} {v : Value} {mb n : Nat} {F F' : Nat → Nat → Option Int}
theorem LeftV.other {base : Nat} (h : LeftV W base l v) (p : Addr) (hp : ∀ b, v.ownBlock = some b → b ≠ p.block) (u : Value) : LeftV (W.setCell p u) base l v := by
  rcases h with h | ⟨g, cap, tail, rfl, h2, h3⟩
  · exact .inl h
  · exact .inr ⟨g, cap, tail, rfl, h2, h3.other (fun e => hp g rfl e.symm) u⟩
theorem LeftV.kept {base B : Nat} (h : LeftV W base l v) (hk : Kept B W W') : LeftV W' base l v := by
  rcases h with h | ⟨g, cap, tail, rfl, h2, h3⟩
  · exact .inl h
  · exact .inr ⟨g, cap, tail, rfl, h2, h3.kept hk⟩
theorem own_map_set {D : DM} (h : OwnsM W mb n D) (p : Addr) (hp : p.block ≠ mb) (u : Value) : OwnsM (W.setCell p u) mb n D := by
  obtain ⟨es, clock, hb, F, hs, hD⟩ := h
  exact ⟨es, clock, (Below.heap_setCell W p u mb (fun e => hp e.symm)).trans hb, F, hs, hD⟩
theorem GR.later (h : GR w W T SA sn sc PA pn pc OA on oc M left l v mb n F) (hb : Below W.heap.size W W') : GR w W' T SA sn sc PA pn pc OA on oc M left l v mb n F := by
  obtain ⟨D, h1, h2⟩ := h.own
  exact ⟨h.gm.later hb, h.ob.later hb, ⟨D, h1.kept (grown_none hb) (by simp), h2⟩, h.lo, h.vb⟩
theorem GR.congr (h : GR w W T SA sn sc PA pn pc OA on oc M left l v mb n F) (hF : ∀ f k, F f k = F' f k) : GR w W T SA sn sc PA pn pc OA on oc M left l v mb n F' := by
  obtain ⟨D, h1, h2⟩ := h.own
  exact ⟨h.gm, h.ob, ⟨D, h1, h2.congr hF⟩, h.lo, h.vb⟩
theorem GR.kept {B : Nat} (h : GR w W T SA sn sc PA pn pc OA on oc M left l v mb n F) (hk : Kept B W W') (hB : mb + 1 ≤ B) : GR w W' T SA sn sc PA pn pc OA on oc M left l v mb n F := by
  have hlo := h.lo
  obtain ⟨D, ⟨es, clock, hb, F, hs, hD⟩, h2⟩ := h.own
  have hlt := (Array.getElem?_eq_some_iff.1 hb).1
  exact ⟨⟨⟨h.gm.gv.bel.trans ⟨hk.os, hk.tape, hk.output, hk.size, fun i hi => hk.low i (by omega) (by have := h.gm.gv.b0.lt; omega)⟩, h.gm.gv.b0.kept hk, h.gm.gv.v0.kept hk⟩, h.gm.lf.kept hk, h.gm.ls.kept hk⟩, h.ob.kept hk, ⟨D, ⟨es, clock, (hk.low _ (by omega) hlt).trans hb, F, hs, hD⟩, h2⟩, h.lo, h.vb⟩
theorem GR.put (h : GR w W T SA sn sc PA pn pc OA on oc M left l v mb n F) (hgl : T < w.heap.size) (hn : n ≤ 2000) {f k : Nat} (hf : f ≤ 1000) (hk : k ≤ 1000) {x : Int} (hx : 0 ≤ x ∧ x ≤ 1000000) :
    ∃ W', (Instr.mapUpdate 93 (.map (some mb)) (.agg #[.int .i64 (f : Int), .int .i64 (k : Int)]) (.int .i64 x)).run Try.prog W = .ok () W' ∧ GR w W' T SA sn sc PA pn pc OA on oc M left l v mb (n + 1) (updF F f k (some x)) ∧ W.grownBy W' (some mb) := by
  have hlo := h.lo
  obtain ⟨D, h1, h2⟩ := h.own
  obtain ⟨W', hr, ho, hg⟩ := h1.update keyed_pl und_mpl (by simp only [maxLen]; omega) (keyL_of f k hf hk) (elem_val _ (wf_mid _ hx.1 hx.2))
  refine ⟨W', hr, ⟨⟨h.gm.gv.grown hgl hg (fun b hb => by cases hb; omega), h.gm.lf.grown hg (fun e => by cases e; omega), h.gm.ls.grown hg (fun g hg' e => by cases e; have := h.vb _ hg'; omega)⟩, h.ob.grown hg (fun e => by cases e), ⟨_, ho, h2.put f k hf hk x⟩, h.lo, h.vb⟩, hg⟩
theorem GR.setw (h : GR w W T SA sn sc PA pn pc OA on oc M left l v mb n F) (hgl : T < w.heap.size) {p : Addr} (hp : mb + 1 < p.block) (u : Value) : GR w (W.setCell p u) T SA sn sc PA pn pc OA on oc M left l v mb n F := by
  have hlo := h.lo
  obtain ⟨D, h1, h2⟩ := h.own
  exact ⟨⟨h.gm.gv.set hgl (by omega) u, h.gm.lf.other (by omega) u, h.gm.ls.other p (fun b hb => by have := h.vb b hb; omega) u⟩, h.ob.other (by omega) u, ⟨D, own_map_set h1 p (by omega) u, h2⟩, h.lo, h.vb⟩
theorem GR.setl (h : GR w W T SA sn sc PA pn pc OA on oc M left l v mb n F) (hgl : T < w.heap.size) {j : Nat} (hj : j < 5) (x : Int) : GR w (W.setCell ⟨w.heap.size + 1, j, none⟩ (.int .i64 x)) T SA sn sc PA pn pc OA on oc M (updN left j x) l v mb n F := by
  have hlo := h.lo
  obtain ⟨D, h1, h2⟩ := h.own
  have hset := h.gm.lf.set j (.int .i64 x)
  rw [ctsA_set _ hj] at hset
  refine ⟨⟨h.gm.gv.set hgl (by show w.heap.size < w.heap.size + 1; omega) _, hset, h.gm.ls.other _ (fun b hb => ?_) _⟩, h.ob.other (by show w.heap.size + 1 ≠ _; omega) _, ⟨D, own_map_set h1 _ (by show w.heap.size + 1 ≠ _; omega) _, h2⟩, h.lo, h.vb⟩
  rcases h.gm.ls with ⟨_, rfl⟩ | ⟨g, cap, tail, rfl, h3, _⟩
  · cases hb
  · simp only [Value.ownBlock, Option.some.injEq] at hb
    show b ≠ w.heap.size + 1
    omega
end
theorem giveG_take {O : List Od} {M : Nat → Int} {l : List Nat} {k i : Nat} (h : l[k]? = some i) : giveG O M (l.take (k + 1)) = orderG O (giveG O M (l.take k)) i := by
  unfold giveG
  rw [List.take_add_one, h, List.foldl_append]
  rfl
theorem down_mem : ∀ (g x : Nat), x ∈ downL g → x ≤ g
  | 0, x, h => by simp [downL] at h; omega
  | g + 1, x, h => by
    rcases List.mem_cons.1 h with e | h
    · omega
    · have := down_mem g x h; omega
theorem giveG_ok {O : List Od} {M : Nat → Int} (hO : OOk O) (hM : ∀ j, j < 5 → 0 ≤ M j ∧ M j ≤ 150) : ∀ l : List Nat, (∀ i ∈ l, i < O.length) → ∀ j, j < 5 → 0 ≤ (giveG O M l).1 j ∧ (giveG O M l).1 j ≤ 150 := by
  intro l
  have key : ∀ (l : List Nat) (s : (Nat → Int) × (Nat → Nat → Option Int)), (∀ i ∈ l, i < O.length) → (∀ j, j < 5 → 0 ≤ s.1 j ∧ s.1 j ≤ 150) → ∀ j, j < 5 → 0 ≤ (l.foldl (orderG O) s).1 j ∧ (l.foldl (orderG O) s).1 j ≤ 150 := by
    intro l
    induction l with
    | nil => exact fun s _ h => h
    | cons i l ih =>
      intro s hl h
      have hi := hO.at_ (hl i (by simp))
      refine ih _ (fun y hy => hl y (by simp [hy])) ?_
      exact (GsOk.steps (i := i) (downL (gAt O i).toNat) (s := ⟨s.1, mAt O i, s.2⟩) ⟨h, hi.2⟩ (fun x hx => by have := down_mem _ _ hx; omega)).1
  exact fun hl => key l _ hl hM
/-- The map without what has come and is nothing. -/
noncomputable def delF (F : Nat → Nat → Option Int) (left : Lit → Bool) (f k : Nat) : Option Int := if F f k = some 0 ∧ left (keyL f k) = false then none else F f k
def SmallF (F : Nat → Nat → Option Int) : Prop := ∀ f k v, F f k = some v → f ≤ 1000 ∧ k ≤ 1000
/-- While what is nothing is deleted. -/
structure GD (w W : World) (mb r : Nat) (D : DM) (F : Nat → Nat → Option Int) (left : Lit → Bool) : Prop where
  bel : Below w.heap.size w W
  ob : Blk W (mb + 1) 93 #[.map (some mb)]
  is : MapIs D (delF F left)
  has : ∀ z, left z = true → has D z = true
  lo : w.heap.size < mb ∧ mb + 1 < r
section
variable {w W W' : World} {mb r : Nat} {D : DM} {F : Nat → Nat → Option Int} {left : Lit → Bool}
theorem GD.later (h : GD w W mb r D F left) (hb : Below W.heap.size W W') : GD w W' mb r D F left := ⟨Below.later h.bel hb, h.ob.later hb, h.is, h.has, h.lo⟩
theorem GD.cells (h : GD w W mb r D F left) : W.cell? ⟨mb + 1, 0, none⟩ = some (.map (some mb)) ∧ mb + 1 < W.heap.size := ⟨h.ob.cell 0, h.ob.lt⟩
theorem GD.grown (h : GD w W mb r D F left) (hg : W.grownBy W' (some r)) : GD w W' mb r D F left := by
  have hlo := h.lo
  exact ⟨h.bel.trans ⟨hg.os, hg.tape, hg.output, hg.size, fun i hi => hg.block i (by have := h.bel.size; omega) (fun e => by simp at e; omega)⟩, h.ob.grown hg (by simp; omega), h.is, h.has, hlo⟩
theorem GD.stay (h : GD w W mb r D F left) (hF : SmallF F) {f k : Nat} {v : Int} (hv : F f k = some v) (h0 : v ≠ 0) : GD w W mb r D F (fun z => left z && !z.sameKey (keyL f k)) := by
  have hs := hF f k v hv
  refine ⟨h.bel, h.ob, h.is.congr (fun f' k' => ?_), fun z hz => h.has z (by simp at hz; exact hz.1), h.lo⟩
  unfold delF
  by_cases e : F f' k' = some 0
  · have hs' := hF f' k' 0 e
    have hne : keyL f' k' ≠ keyL f k := fun e' => by
      obtain ⟨rfl, rfl⟩ := keyL_inj hs'.1 hs'.2 hs.1 hs.2 e'
      rw [e] at hv; cases hv; exact h0 rfl
    simp [sameKey_ne hne]
  · simp [e]
theorem GD.gone (h : GD w W mb r D F left) (hg : W.grownBy W' (some mb)) (hF : SmallF F) {f k : Nat} (hv : F f k = some 0) : GD w W' mb r (D.del (keyL f k)) F (fun z => left z && !z.sameKey (keyL f k)) := by
  have hlo := h.lo
  have hs := hF f k 0 hv
  have hself : (keyL f k).sameKey (keyL f k) = true := WideAt.sameKey_self (keyed_pl.key (keyL_of f k hs.1 hs.2))
  refine ⟨h.bel.trans ⟨hg.os, hg.tape, hg.output, hg.size, fun i hi => hg.block i (by have := h.bel.size; omega) (fun e => by simp at e; omega)⟩, h.ob.grown hg (by simp), (h.is.del f k hs.1 hs.2).congr (fun f' k' => ?_), fun z hz => ?_, hlo⟩
  · unfold updF delF
    by_cases e : f' = f ∧ k' = k
    · obtain ⟨rfl, rfl⟩ := e
      simp [hv, hself]
    · rw [if_neg e]
      by_cases e0 : F f' k' = some 0
      · have hs' := hF f' k' 0 e0
        have hne : keyL f' k' ≠ keyL f k := fun e' => e (keyL_inj hs'.1 hs'.2 hs.1 hs.2 e')
        simp [sameKey_ne hne]
      · simp [e0]
  · simp at hz
    have hne : z ≠ keyL f k := fun e => by subst e; rw [hself] at hz; simp at hz
    rw [has_del_other hne]
    exact h.has z hz.1
end
set_option maxRecDepth 100000 in
set_option maxHeartbeats 8000000 in
theorem give_any (T : Nat) (SA : Option Addr) (sn sc : Nat) (PA : Option Addr) (pn pc : Nat) (OA : Option Addr) (on oc : Nat) (S P : List Int) (O : List Od) (M : Nat → Int) (w : World) (hs : StIn w T SA sn sc PA pn pc OA on oc S P O M) (hO : OOk O) (hM : ∀ j, j < 5 → 0 ≤ M j ∧ M j ≤ 150) :
    Calls Try.prog 72 #[.pointer (some ⟨T, 0, none⟩)] w fun e w' => ∃ (b n : Nat) (D : DM) (l : List Nat) (F : Nat → Nat → Option Int), e = .returned (.map (some b)) ∧ Below w.heap.size w w' ∧ w.heap.size ≤ b ∧ OwnsM w' b n D ∧ MapIs D F ∧ n ≤ 100 ∧ l.Perm (List.range O.length) ∧ (l.Pairwise fun x y => gAt O x ≤ gAt O y) ∧ ∀ f k, F f k = if (giveG O M l).2 f k = some 0 then none else (giveG O M l).2 f k := by
  obtain rfl := hs.sh.stk.len
  obtain rfl := hs.sh.prc.len
  obtain rfl := hs.sh.ord.len
  have hgl := hs.b0.lt
  have hb1 := Blk.new (w.alloc (.cells #[.pointer (some ⟨T, 0, none⟩)] 74)) 81 (ctsA M)
  rw [World.size_alloc] at hb1
  have HL0 := Lib.hid (show GL w ((w.alloc (.cells #[.pointer (some ⟨T, 0, none⟩)] 74)).alloc (.cells (ctsA M) 81)) T SA S.length sc PA P.length pc OA O.length oc M 0 (.slice none 0 0) from ⟨⟨balloc (balloc (brefl w) _) _, (Blk.new w _ _).alloc _, (hs.b0.alloc _).alloc _⟩, hb1, World.ownsRow_nil _ _ _ _⟩)
  have Hs := Lib.hid hs.sh
  have HM := Lib.hid hM
  have HO := Lib.hid hO
  have v0 := hs.b0.cell 0
  have v1 := hs.b0.cell 1
  have v2 := hs.b0.cell 2
  have v3 := hs.b0.cell 3
  have v4 := hs.b0.cell 4
  have v5 := hs.b0.cell 5
  have v6 := hs.b0.cell 6
  have v7 := hs.b0.cell 7
  have h8 := hO.1
  clear hs hO hM hb1
  unfold stoC at v0 v1 v2 v3 v4 v5 v6 v7
  unfold ctsA at HL0
  refine calls_of_marks Try.func72 rfl ?_
  simp only [Try.ntmps72, List.size_toArray, List.length_cons, List.length_nil, Nat.reduceAdd, Nat.reduceSub, Array.replicate_succ, Array.replicate_zero, List.push_toArray, List.append_toArray, List.nil_append, List.cons_append]
  have hmm := @run_makeMap Try.prog
  go_wp2_with fail
  clear v0 v1 v2 v3 v4 v5 v6 v7
  refine loop_n (fun m a W => a.defers = [] ∧ ∃ (i : Nat) (v : Value), i + m = O.length ∧ Hid (GL w W T SA S.length sc PA P.length pc OA O.length oc M i v) ∧ Fits (none :: some (.pointer (some ⟨w.heap.size, 0, none⟩)) :: none :: some (.pointer (some ⟨w.heap.size + 1, 0, none⟩)) :: some (v) :: none :: none :: none :: none :: none :: none :: none :: none :: none :: none :: none :: none :: none :: none :: none :: none :: none :: none :: some (.int .i64 (O.length : Int)) :: some (.int .i64 (i : Nat)) :: none :: none :: none :: none :: none :: none :: none :: none :: none :: none :: none :: none :: none :: none :: none :: none :: none :: none :: none :: none :: none :: none :: none :: none :: none :: none :: none :: none :: none :: none :: none :: none :: none :: none :: none :: none :: none :: none :: none :: none :: none :: none :: none :: none :: none :: none :: none :: none :: none :: none :: none :: none :: none :: none :: none :: none :: none :: none :: none :: none :: none :: none :: []) a.tmps.toList) O.length ?_ ?_
  · refine ⟨rfl, 0, _, by omega, HL0, ?_⟩
    repeat (first | exact fits_nil | refine fits_none ?_ | refine fits_some ?_)
  clear HL0
  intro m a W hI K hK
  obtain ⟨hds, i, v, him, HL, hfit⟩ := hI
  obtain ⟨f, hf⟩ := fits_act hfit
  rw [hds] at hf
  subst hf
  clear hfit hds
  simp only [fillP, Nat.reduceAdd]
  by_cases hlt : i < O.length
  · have i1 : (i : Int) < (O.length : Int) := by omega
    have i2 : (0 : Int) ≤ (i : Int) := by omega
    have i3 : IntKind.i64.wrap ((i : Int) + 1) = (i : Int) + 1 := by rw [IntKind.wrap_i64]; omega
    have i4 : i ≤ 8 := by omega
    obtain ⟨i0, hi0, hz0, hz1, hz2⟩ := info_parts info_int
    have HL2 := Lib.hid (HL.out.later (balloc (brefl W) (.cells #[.int .i64 i] 3)))
    have hsz : w.heap.size + 1 + 1 ≤ W.heap.size := by have := HL.out.lf.lt; omega
    have Him := Lib.hid (show i + m = O.length ∧ i < O.length from ⟨him, hlt⟩)
    clear HL him hlt hmm
    go_wp2_with (at_builtin; refine wpList_append_own _ rfl _ _ 48 rfl (w.heap.size + 1 + 1) 3 i0 (.int .i64 0) 1 8 und_ints hi0 hz0 hz1 hz2 rfl (by decide) v i _ rfl HL2.out.row ⟨W.heap.size, 0, none⟩ 1 1 [.int .i64 (i : Int)] rfl rfl (one_new _ _ _) (by simp [Value.oneCell']) (by simp only [maxLen]; omega) (by omega) (by simp; omega) ?_; intro v' W3 hown' hgr _; have HL3 := Lib.hid (HL2.out.app hgl hgr hown'); clear hown' hgr)
    refine hK _ _ (m - 1) (by have := Him.out; omega) ⟨rfl, i + 1, v', by have := Him.out; omega, HL3, ?_⟩
    repeat (first | exact fits_nil | refine fits_none ?_ | refine fits_some ?_)
  have i1 : ¬ (i : Int) < (O.length : Int) := by omega
  obtain rfl : i = O.length := by omega
  have Hso := Lib.hid (sortAll_any _ _ _ _ _ _ _ _ _ S P O HL.out Hs.out HO.out hgl)
  clear hK him hlt HL
  go_wp2_with fail
  refine Hso.out.mono ?_
  rintro e w1 ⟨rfl, l, hperm, hsrt, hM1⟩
  have HP := Lib.hid hperm
  have HS := Lib.hid hsrt
  have HM1 := Lib.hid hM1
  clear hperm hsrt hM1 Hso
  have hv : ∃ A cap, v = .slice A l.length cap := by
    rcases HM1.out.ls with ⟨h0, rfl⟩ | ⟨g, cap, tail, rfl, _⟩
    · exact ⟨none, 0, by rw [h0]; rfl⟩
    · exact ⟨_, _, rfl⟩
  obtain ⟨lA, lcap, rfl⟩ := hv
  have hR0 : GR w ((w1.alloc (.map #[] 0)).alloc (.cells #[.map (some w1.heap.size)] 93)) T SA S.length sc PA P.length pc OA O.length oc M M l (.slice lA l.length lcap) w1.heap.size 0 (fun _ _ => none) := by
    have hb1 := (balloc (balloc (brefl w1) (.map #[] 0)) (.cells #[.map (some w1.heap.size)] 93))
    refine ⟨HM1.out.later hb1, ?_, ⟨.map [], ?_, MapIs.empty⟩, HM1.out.lf.lt, fun b hb => ?_⟩
    · have h5 := Blk.new (w1.alloc (.map #[] 0)) 93 #[.map (some w1.heap.size)]
      rw [World.size_alloc] at h5
      exact h5
    · exact (World.ownsMap_made (H := Unit) w1 Try.prog 96 (plainElem Try.prog 2)).alloc (.cells #[.map (some w1.heap.size)] 93)
    · rcases HM1.out.ls with ⟨_, h0⟩ | ⟨g, cap, tail, h0, _, hbl⟩
      · rw [h0] at hb; cases hb
      · rw [h0] at hb
        simp only [Value.ownBlock, Option.some.injEq] at hb
        have := hbl.lt
        omega
  have HR0 := Lib.hid hR0
  have Hll := Lib.hid (show l.length = O.length by rw [HP.out.length_eq, List.length_range])
  clear hR0 HM1
  go_wp2_with fail
  generalize (w1.alloc (.map #[] 0)).alloc (.cells #[.map (some w1.heap.size)] 93) = W0 at *
  generalize w1.heap.size = mb at *
  refine loop_n (fun m a W => ∃ k n : Nat, k + m = l.length ∧ Hid (n ≤ 5 * k) ∧ Hid (GR w W T SA S.length sc PA P.length pc OA O.length oc M (giveG O M (l.take k)).1 l (.slice lA l.length lcap) mb n (giveG O M (l.take k)).2) ∧ Hid (Marks (mb + 1) W a.defers) ∧ Fits (none :: some (.pointer (some ⟨w.heap.size, 0, none⟩)) :: none :: some (.pointer (some ⟨w.heap.size + 1, 0, none⟩)) :: none :: none :: some (.pointer (some ⟨mb + 1, 0, none⟩)) :: none :: none :: none :: none :: none :: none :: none :: none :: none :: none :: none :: none :: none :: none :: none :: none :: none :: none :: none :: none :: none :: none :: none :: none :: none :: none :: none :: none :: none :: some (.slice lA l.length lcap) :: some (.int .i64 (l.length : Int)) :: some (.int .i64 (k : Nat)) :: none :: none :: none :: none :: none :: none :: none :: none :: none :: none :: none :: none :: none :: none :: none :: none :: none :: none :: none :: none :: none :: none :: none :: none :: none :: none :: none :: none :: none :: none :: none :: none :: none :: none :: none :: none :: none :: none :: none :: none :: none :: none :: none :: none :: none :: none :: none :: none :: []) a.tmps.toList) l.length ?_ ?_
  · refine ⟨0, 0, by omega, Lib.hid (by omega), HR0, Lib.hid (Marks.nil _ _), ?_⟩
    repeat (first | exact fits_nil | refine fits_none ?_ | refine fits_some ?_)
  clear HR0
  clear W0
  intro m a W hI K hK
  obtain ⟨k, n, hkm, Hn, HR, Hm, hfit⟩ := hI
  obtain ⟨f, hf⟩ := fits_act hfit
  generalize a.defers = ds at *
  subst hf
  clear hfit
  simp only [fillP, Nat.reduceAdd]
  by_cases hlt : k < l.length
  · obtain ⟨lg, cap', x, he, hlg, hlgW, hx, hcx⟩ := HR.out.gm.ls.at_ hlt
    simp only [Value.slice.injEq, true_and] at he
    obtain ⟨rfl, rfl⟩ := he
    have hxn : x < O.length := List.mem_range.1 (HP.out.mem_iff.1 (List.mem_of_getElem? hx))
    obtain ⟨⟨a0, a1⟩, b0, b1⟩ := HO.out.at_ hxn
    have hs2 := (Hs.out.later HR.out.gm.gv.bel).ord
    obtain ⟨rb, ro, u, rfl, hrb, hu, g0, g1⟩ := hs2.ltO hxn
    rw [gAt_eq hu] at a0 a1
    rw [mAt_eq hu] at b0 b1
    obtain ⟨⟨m0, m1⟩, ml, mg⟩ := HR.out.gm.gv.cells
    have j1 : (k : Int) < (l.length : Int) := by omega
    have j2 : (0 : Int) ≤ (k : Int) := by omega
    have j3 : IntKind.i64.wrap ((k : Int) + 1) = (k : Int) + 1 := by have := Hll.out; rw [IntKind.wrap_i64]; omega
    have j4 : (x : Int) < (O.length : Int) := by omega
    have j5 : (0 : Int) ≤ (x : Int) := by omega
    have e1 : lg < W.heap.size + 1 := by omega
    have Hu := Lib.hid hu
    have Hx := Lib.hid hx
    have Ha := Lib.hid (And.intro a0 a1)
    have Hb := Lib.hid (And.intro b0 b1)
    have Hkm := Lib.hid (show k + m = l.length ∧ k < l.length from ⟨hkm, hlt⟩)
    clear hu hx a0 a1 b0 b1 hkm hlt hs2 hmm
    go_wp2_with fail
    go_region
    have hbE := balloc (balloc (brefl W) (.cells #[.int .i64 (x : Int)] 3)) (.cells #[.int .i64 u.m] 2)
    have hb2 : Below W.heap.size W ((W.alloc (.cells #[.int .i64 (x : Int)] 3)).alloc (.cells #[.int .i64 u.m] 2)).drew := bdrew hbE 1
    have hE1 : Blk ((W.alloc (.cells #[.int .i64 (x : Int)] 3)).alloc (.cells #[.int .i64 u.m] 2)).drew W.heap.size 3 #[.int .i64 (x : Int)] := (Blk.new W 3 #[.int .i64 (x : Int)]).alloc (.cells #[.int .i64 u.m] 2)
    have hE2 : Blk ((W.alloc (.cells #[.int .i64 (x : Int)] 3)).alloc (.cells #[.int .i64 u.m] 2)) (W.heap.size + 1) 2 #[.int .i64 u.m] := by
      have h5 := Blk.new (W.alloc (.cells #[.int .i64 (x : Int)] 3)) 2 #[.int .i64 u.m]
      rw [World.size_alloc] at h5
      exact h5
    have hE3 : Blk ((W.alloc (.cells #[.int .i64 (x : Int)] 3)).alloc (.cells #[.int .i64 u.m] 2)).drew (W.heap.size + 1) 2 #[.int .i64 u.m] := hE2
    have hEs : ((W.alloc (.cells #[.int .i64 (x : Int)] 3)).alloc (.cells #[.int .i64 u.m] 2)).drew.heap.size = W.heap.size + 1 + 1 := by
      show ((W.alloc (.cells #[.int .i64 (x : Int)] 3)).alloc (.cells #[.int .i64 u.m] 2)).heap.size = W.heap.size + 1 + 1
      rw [World.size_alloc, World.size_alloc]
    have HR2 := Lib.hid (HR.out.later hb2)
    have Hm2 := Lib.hid (Hm.out.later hb2)
    have HEW := Lib.hid hb2.size
    have hlo := HR.out.ob.lt
    clear hbE hb2 hE2 HR Hm m0 m1 ml mg g0 g1 hcx e1 hlgW hrb
    generalize ((W.alloc (.cells #[.int .i64 (x : Int)] 3)).alloc (.cells #[.int .i64 u.m] 2)).drew = W2 at *
    generalize W.heap.size = E at *
    obtain ⟨⟨m0, m1⟩, ml, mg⟩ := HR2.out.gm.gv.cells
    have d1 := hE1.cell 0
    have d2 := hE1.lt
    have HE1 := Lib.hid hE1
    have HE3 := Lib.hid hE3
    have HEs := Lib.hid hEs
    clear hE1 hE3 hEs
    go_wp2_with fail
    refine (grades_any T x _).mono ?_
    rintro e w3 ⟨rfl, hw3⟩
    have hb3 : Below W2.heap.size W2 w3 := by rw [← hw3]; exact balloc (balloc (brefl _) _) _
    have k1 : Blk w3 W2.heap.size 74 #[.pointer (some ⟨T, 0, none⟩)] := by rw [← hw3]; exact (Blk.new W2 _ _).alloc _
    have k2 : Blk w3 (W2.heap.size + 1) 3 #[.int .i64 (x : Int)] := by
      rw [← hw3]
      have h5 := Blk.new (W2.alloc (.cells #[.pointer (some ⟨T, 0, none⟩)] 74)) 3 #[.int .i64 (x : Int)]
      rw [World.size_alloc] at h5
      exact h5
    have HR3 := Lib.hid (HR2.out.later hb3)
    have Hm3 := Lib.hid (Hm2.out.later hb3)
    have HE4 := Lib.hid (HE1.out.later hb3)
    have HE5 := Lib.hid (HE3.out.later hb3)
    have HIR := Lib.hid (show IRg w3 W2.heap.size (W2.heap.size + 1) T w.heap.size SA S.length sc PA P.length pc (some ⟨rb, ro, none⟩) O.length oc O M x from ⟨k1, k2, HR3.out.gm.gv.v0, Hs.out.ord.below HR3.out.gm.gv.bel⟩)
    have Hsz := Lib.hid (show W2.heap.size ≤ w3.heap.size from hb3.size)
    clear hw3 hb3 k1 k2 d1 d2 m0 m1 ml mg HR2 Hm2 HE1 HE3
    go_wp2_with fail
    have Hgl := Lib.hid (giveG_ok HO.out HM.out (l.take k) (fun i hi => List.mem_range.1 (HP.out.mem_iff.1 (List.mem_of_mem_take hi))))
    have hlo2 := HR3.out.lo
    have hlo3 : mb + 1 < E := hlo
    refine range_grades (ok := fun j => j ≠ w.heap.size + 1 ∧ j ≠ E + 1) (gr := u.g.toNat) (d := 10) (w := w3) rfl Hu.out (by have := Ha.out; omega) (by have := Ha.out; omega) (by have := Ha.out; omega) ⟨by have := HEs.out; have := HEW.out; omega, by have := HEs.out; omega⟩ ⟨by have := HEs.out; omega, by have := HEs.out; omega⟩ ⟨by omega, by omega⟩ (fun j hj => ⟨by omega, by omega⟩) HIR.out
      (fun (pre : List (Gd 5)) W => ∃ n' : Nat, n' ≤ 5 * k + pre.length ∧ GR w W T SA S.length sc PA P.length pc (some ⟨rb, ro, none⟩) O.length oc M ((pre.map Subtype.val).foldl (stepG x) ⟨(giveG O M (l.take k)).1, u.m, (giveG O M (l.take k)).2⟩).left l (.slice (some ⟨lg, 0, none⟩) l.length lcap) mb n' ((pre.map Subtype.val).foldl (stepG x) ⟨(giveG O M (l.take k)).1, u.m, (giveG O M (l.take k)).2⟩).F ∧ Blk W E 3 #[.int .i64 (x : Int)] ∧ Blk W (E + 1) 2 #[.int .i64 ((pre.map Subtype.val).foldl (stepG x) ⟨(giveG O M (l.take k)).1, u.m, (giveG O M (l.take k)).2⟩).want] ∧ KeepD w3 W)
      (fun c (pre : List (Gd 5)) W => False)
      ?hI ?hIx
      ⟨n, by have := Hn.out; simpa using this, HR3.out, HE4.out, HE5.out, KeepD.refl _⟩ ?assign ?body ?done ?stop
    case hI =>
      intro pre W W' hK h
      obtain ⟨n', h1, h2, h3, h4, h5⟩ := h
      exact ⟨n', h1, h2.kept hK (by have := HR3.out.ob.lt; omega), h3.kept hK, h4.kept hK, h5.kept hK⟩
    case hIx => exact fun c pre W W' hK h => h
    case assign =>
      intro l x W K hK
      simp only [setAct, List.setIfInBounds_toArray, List.set_cons_succ, List.set_cons_zero] at hK
      gi_wp2
      exact hK
    case body =>
      intro l' pre y W hWs hI hpl
      obtain ⟨n', hn', hR, hx1, hw1, hKD⟩ := hI
      obtain ⟨y, hy5⟩ := y
      have hgs : GsOk ((pre.map Subtype.val).foldl (stepG x) ⟨(giveG O M (l.take k)).1, u.m, (giveG O M (l.take k)).2⟩) := GsOk.steps _ ⟨Hgl.out, Hb.out⟩ (fun z hz => by
        obtain ⟨q, _, rfl⟩ := List.mem_map.1 hz
        exact q.2)
      have hst := hgs.step x hy5
      have hfold : ((pre ++ [(⟨y, hy5⟩ : Gd 5)]).map Subtype.val).foldl (stepG x) ⟨(giveG O M (l.take k)).1, u.m, (giveG O M (l.take k)).2⟩ = stepG x ((pre.map Subtype.val).foldl (stepG x) ⟨(giveG O M (l.take k)).1, u.m, (giveG O M (l.take k)).2⟩) y := by
        rw [List.map_append, List.foldl_append]; rfl
      generalize (pre.map Subtype.val).foldl (stepG x) ⟨(giveG O M (l.take k)).1, u.m, (giveG O M (l.take k)).2⟩ = s at *
      obtain ⟨left, want, F⟩ := s
      simp only at hR hw1
      obtain ⟨r, hr⟩ : ∃ r, left y = r := ⟨_, rfl⟩
      obtain ⟨q, hq⟩ : ∃ q, (if r < want then r else want) = q := ⟨_, rfl⟩
      have hmin : min want r = q := by rw [← hq]; split <;> omega
      have hgy := hgs.1 y hy5
      have hgw := hgs.2
      simp only at hgy hgw
      rw [hr] at hgy
      have hq0 : 0 ≤ q ∧ q ≤ r ∧ q ≤ want ∧ q ≤ 20 := by omega
      have hlc := cts_cell hR.gm.lf hy5
      rw [hr] at hlc
      have HF := Lib.hid (show stepG x ⟨left, want, F⟩ y = ⟨updN left y (r - q), want - q, updF F x y (some q)⟩ by unfold stepG; simp only [hr, hmin])
      have HR := Lib.hid hR
      have HX := Lib.hid hx1
      have HW := Lib.hid hw1
      have HKD := Lib.hid hKD
      have HWs := Lib.hid hWs
      have Hq := Lib.hid hq0
      have Hfo := Lib.hid hfold
      have c0 := hx1.cell 0
      have c1 := hx1.lt
      have c2 := hw1.cell 0
      have c3 := hw1.lt
      have c4 := hR.ob.cell 0
      have c5 := hR.ob.lt
      have c6 := hR.gm.lf.lt
      have y1 : (y : Int) < 5 := by omega
      have y2 : (0 : Int) ≤ (y : Int) := by omega
      have y3 : IntKind.i64.wrap (r - q) = r - q := by rw [IntKind.wrap_i64]; omega
      have y4 : IntKind.i64.wrap (want - q) = want - q := by rw [IntKind.wrap_i64]; omega
      have Hst := Lib.hid hst
      clear hR hx1 hw1 hKD hWs hq0 hfold hst hgs hgy hgw
      unfold setAct
      gi_wp2_with fail
      refine dagIn 6 (lets_round l' 7 _) (by kernel_rfl) (by kernel_rfl) (.is ?_ :: .is ?_ :: .is ?_ :: .is ?_ :: .is ?_ :: .is ?_ :: []) rfl ?st2 ?ob2
      case st2 => simp [Spec.ok]
      case ob2 =>
        intro env W' hG
        obtain ⟨hc, hf⟩ := bcell hG
        iterate 4 (refine obls_is ?_ ?_; unfold doesAt; go_simp; (try go_bits); (first | (refine ⟨brefl _, ?_⟩; rfl) | rfl); intro K hK; go_simp; refine hK _ ?_; clear hK K)
        iterate 2 (refine obls_is ?_ ?_; unfold doesAt; go_simp; (try go_bits); (first | (refine ⟨brefl _, ?_⟩; rfl) | rfl); intro K hK; go_simp; refine hK _ ?_; clear hK K)
        refine obls_nil (fun _ => ?_)
        have hR1 := HR.out.later hG
        obtain ⟨W5, hrun, hR5, hgr⟩ := hR1.put hgl (by have := Hll.out; have := Hkm.out; omega) (f := x) (k := y) (by omega) (by omega) (x := q) (by have := Hq.out; omega)
        obtain ⟨D0, hown0, _⟩ := hR1.own
        have hX5 := (HX.out.later hG).grown hgr (fun e => by cases e; omega)
        have hW5 := (HW.out.later hG).grown hgr (fun e => by cases e; omega)
        have x0 := (HX.out.later hG).cell 0
        have x1 := (HX.out.later hG).lt
        have x2 := hR1.ob.cell 0
        have x3 := hR1.ob.lt
        have z0 := cts_cell hR5.gm.lf hy5
        rw [hr] at z0
        have z1 := hR5.gm.lf.frozen y
        have z2 := hR5.gm.lf.lt
        have z3 := hW5.cell 0
        have z4 := hW5.frozen 0
        have z5 := hW5.lt
        have HR5 := Lib.hid hR5
        have HX5 := Lib.hid hX5
        have HW5 := Lib.hid hW5
        have Hgr := Lib.hid hgr
        have HKD1 := Lib.hid ((HKD.out.later hG).map hown0 hgr)
        have HG := Lib.hid hG
        have Hown := Lib.hid hown0
        clear hc hf hG hR1 hgr hown0 hR5 hX5 hW5 c0 c1 c2 c3 c4 c5 c6 hlc HR HX HW HKD
        gi_wp2_with fail
        have hW3 : mb < w3.heap.size := by have := HR3.out.ob.lt; omega
        refine ⟨((KeepsFrom.later HG.out).trans (KeepsFrom.of_grownBy Hgr.out (fun j hj => by cases hj; omega))).trans ((KeepsFrom.set _ _ _).trans (KeepsFrom.set _ _ _)), (KpS.of_below HG.out).trans ((KpS.grown Hgr.out (fun r hr => by
          cases hr
          obtain ⟨es, clock, hb, _⟩ := Hown.out
          exact ⟨_, hb, rfl⟩)).trans ((KpS.set _ (fun h => h.1 rfl) _).trans (KpS.set _ (fun h => h.2 rfl) _))), n' + 1, by simp; omega, ?_, ?_, ?_, ?_⟩
        · rw [Hfo.out, HF.out]
          exact (HR5.out.setl hgl hy5 (r - q)).setw hgl (by show mb + 1 < E + 1; omega) _
        · exact (HX5.out.other (by show w.heap.size + 1 ≠ E; omega) _).other (by show E + 1 ≠ E; omega) _
        · rw [Hfo.out, HF.out]
          have h5 := (HW5.out.other (p := ⟨w.heap.size + 1, y, none⟩) (by show w.heap.size + 1 ≠ E + 1; omega) (.int .i64 (r - q))).set 0 (.int .i64 (want - q))
          simpa using h5
        · exact (HKD1.out.set _ _).set _ _
    case done =>
      intro D' W5 ys hD' hys hI5 hd
      obtain ⟨n5, hn5, hR5, hx5, hw5, hKD5⟩ := hI5
      have hyl : ys.length ≤ 5 := by
        have h5 := congrArg List.length hys
        rw [List.length_map, down_len] at h5
        have := Ha.out
        omega
      have hgv : giveG O M (l.take (k + 1)) = (((ys.map Subtype.val).foldl (stepG x) ⟨(giveG O M (l.take k)).1, u.m, (giveG O M (l.take k)).2⟩).left, ((ys.map Subtype.val).foldl (stepG x) ⟨(giveG O M (l.take k)).1, u.m, (giveG O M (l.take k)).2⟩).F) := by
        rw [giveG_take Hx.out, hys]
        unfold orderG
        rw [gAt_eq Hu.out, mAt_eq Hu.out]
      have hR6 : GR w W5 T SA S.length sc PA P.length pc (some ⟨rb, ro, none⟩) O.length oc M (giveG O M (l.take (k + 1))).1 l (.slice (some ⟨lg, 0, none⟩) l.length lcap) mb n5 (giveG O M (l.take (k + 1))).2 := by rw [hgv]; exact hR5
      have hmk : Marks (mb + 1) W5 (mark D' :: ds) := Hm3.out.cons hD' (by have := HR3.out.ob.lt; omega) hd (fun k c _ hk => hKD5 k c hk)
      have HR6 := Lib.hid hR6
      have Hmk := Lib.hid hmk
      have Hn6 := Lib.hid (show n5 ≤ 5 * (k + 1) by omega)
      clear hR5 hx5 hw5 hKD5 hd hR6 hmk hgv hys hyl hn5 HR3 Hm3
      go_wp2
      refine hK _ _ (m - 1) (by have := Hkm.out; omega) ⟨k + 1, n5, by have := Hkm.out; omega, Hn6, HR6, Hmk, ?_⟩
      repeat (first | exact fits_nil | refine fits_none ?_ | refine fits_some ?_)
    case stop =>
      intro D' c pre W5 hD' hI5 hd
      exact hI5.elim
  obtain rfl : k = l.length := by omega
  rw [List.take_length] at HR
  have i1 : ¬ (l.length : Int) < (l.length : Int) := by omega
  clear hK hkm hlt
  obtain ⟨D0, hown0, hD0⟩ := HR.out.own
  have hNr : mb + 1 < W.heap.size := HR.out.ob.lt
  have hbel := HR.out.gm.gv.bel
  have hob := HR.out.ob
  have hlo := HR.out.lo
  have n0 := hob.cell 0
  obtain ⟨F, hF⟩ : ∃ F, (giveG O M l).2 = F := ⟨_, rfl⟩
  rw [hF] at hD0
  have HSm := Lib.hid (show SmallF F from hD0.small)
  have HF := Lib.hid hF
  have Hown0 := Lib.hid hown0
  have HD0 := Lib.hid hD0
  have Hbel := Lib.hid hbel
  have Hob := Lib.hid hob
  clear hown0 hD0 hbel hob hF HR
  go_wp2_with (at_range; refine wpList_range_own _ rfl _ 93 rfl 96 2 keyed_pl und_mpl _ mb n D0 rfl Hown0.out ?_; intro w0 hrg0 hg0 hs0)
  try go_frame
  have hR0 : GD w w0 mb W.heap.size D0 F (Maps.has D0) := by
    refine ⟨Hbel.out.trans ⟨hg0.os, hg0.tape, hg0.output, hg0.size, fun i hi => hg0.block i (by have := Hbel.out.size; omega) (fun e => by cases e)⟩, Hob.out.grown hg0 (fun e => by cases e), HD0.out.congr (fun f k => ?_), fun z h => h, by omega⟩
    unfold delF
    by_cases e : F f k = some 0
    · rw [if_neg]
      intro h
      rw [(HD0.out.yes f k 0 e).1] at h
      exact absurd h.2 (by simp)
    · rw [if_neg (fun h => e h.1)]
  have hm0 : Marks (mb + 1) w0 ds := Hm.out.kept (fun k c h => (hg0.block k (Array.getElem?_eq_some_iff.1 h).1 (fun e => by cases e)).trans h)
  have HR0 := Lib.hid hR0
  have Hrg0 := Lib.hid hrg0
  have Hm0 := Lib.hid hm0
  generalize W.heap.size = r at *
  clear hrg0 hg0 hs0 hR0 hm0 Hm Hown0 HD0 n0 hNr Hbel Hob
  clear W
  refine loop_n (fun m a W => a.defers = ds ∧ ∃ (D : DM) (left : Lit → Bool) (cnt : Nat), cnt ≤ m ∧ GD w W mb r D F left ∧ RangesM W mb r n D left cnt ∧ Marks (mb + 1) W ds ∧ Fits (none :: none :: none :: none :: none :: none :: some (.pointer (some ⟨mb + 1, 0, none⟩)) :: none :: none :: none :: none :: none :: none :: none :: none :: none :: none :: none :: none :: none :: none :: none :: none :: none :: none :: none :: none :: none :: none :: none :: none :: none :: none :: none :: none :: none :: none :: none :: none :: none :: none :: none :: none :: none :: none :: none :: none :: none :: none :: none :: none :: none :: none :: none :: none :: none :: none :: none :: none :: none :: none :: none :: none :: none :: none :: none :: none :: none :: none :: none :: none :: none :: none :: none :: none :: none :: some (.pointer (some ⟨r, 0, none⟩)) :: none :: none :: none :: none :: none :: none :: none :: none :: none :: none :: []) a.tmps.toList) (Maps.size D0) ?_ ?_
  · refine ⟨rfl, D0, _, _, Nat.le_refl _, HR0.out, Hrg0.out, Hm0.out, ?_⟩
    repeat (first | exact fits_nil | refine fits_none ?_ | refine fits_some ?_)
  clear HR0 Hrg0 Hm0
  clear w0
  intro m a W hI K hK
  obtain ⟨hds, D, left, cnt, hcm, hR, hrg, hm, hfit⟩ := hI
  obtain ⟨f, hf⟩ := fits_act hfit
  rw [hds] at hf
  subst hf
  clear hfit hds
  simp only [fillP, Nat.reduceAdd]
  have HR := Lib.hid hR
  have Hrg := Lib.hid hrg
  have Hm := Lib.hid hm
  clear hR hrg hm
  rcases Hrg.out.next keyed_pl 0 with ⟨hc0, hl0, hrun⟩ | ⟨x, c, kl, y, w1, cnt1, hkey, hlk, hv, hat, hrun, hrg1, hlt1, hgr, hsz, hen⟩
  · have hown := Hrg.out.owns
    have hD : MapIs D (fun f k => if F f k = some 0 then none else F f k) := HR.out.is.congr (fun f k => by unfold delF; simp [hl0])
    obtain ⟨m0, ml⟩ := HR.out.cells
    have Hown := Lib.hid hown
    have HD := Lib.hid hD
    clear hc0 hl0 hown hD hK
    go_wp2_with fail
    refine postM_ret (B := mb + 1) (v := .map (some mb)) Hm.out (fun W' => results_tmp (t := 2) rfl _ _ _) (fun W' hK => ?_)
    have hlo := HR.out.lo
    refine ⟨mb, n, D, l, _, rfl, ?_, by omega, ?_, HD.out, by have := Hn.out; have := Hll.out; omega, HP.out, HS.out, fun f k => by rw [HF.out]⟩
    · exact HR.out.bel.trans ⟨hK.os, hK.tape, hK.output, hK.size, fun i hi => hK.low i (by omega) (by have := HR.out.bel.size; omega)⟩
    · obtain ⟨es, clock, hb, F', hs, hD⟩ := Hown.out
      exact ⟨es, clock, (hK.low _ (by omega) (by have := HR.out.ob.lt; omega)).trans hb, F', hs, hD⟩
  · obtain ⟨f', k', v, rfl, hS⟩ := HR.out.is.only kl (HR.out.has kl hlk)
    have hFv : F f' k' = some v := by
      unfold delF at hS
      split at hS
      · cases hS
      · exact hS
    obtain ⟨hf1, hk1⟩ := HSm.out f' k' v hFv
    obtain rfl : x = .agg #[.int .i64 (f' : Int), .int .i64 (k' : Int)] := keyed_pl.inj hkey (keyL_of f' k' hf1 hk1)
    obtain ⟨cv, rfl, hy, hwf⟩ := plainElem_int_inv und_i64 hv
    obtain rfl : cv = v := by
      have h1 := (HR.out.is.yes f' k' v hS).2 (.lit (.int .i64 0))
      rw [hat, hy] at h1
      simpa using h1
    have hR1 := HR.out.grown hgr
    have hm1 := Hm.out.kept (W' := w1) (fun k c h => (hgr.block k (Array.getElem?_eq_some_iff.1 h).1 (fun e => by
      simp at e
      subst e
      obtain ⟨_, _, _, _, _, _, _, _, _, hr, _⟩ := Hrg.out
      rw [hr] at h; cases h)).trans h)
    have hGs := balloc (brefl w1) (.cells #[.int .i64 (f' : Int), .int .i64 (k' : Int)] 96)
    have hBs : Blk (w1.alloc (.cells #[.int .i64 (f' : Int), .int .i64 (k' : Int)] 96)) w1.heap.size 96 #[.int .i64 (f' : Int), .int .i64 (k' : Int)] := Blk.new _ _ _
    have hR2 := hR1.later hGs
    obtain ⟨m0, ml⟩ := hR2.cells
    have hrg2 : RangesM (w1.alloc (.cells #[.int .i64 (f' : Int), .int .i64 (k' : Int)] 96)) mb r n D (fun z => left z && !z.sameKey (keyL f' k')) cnt1 := hrg1.kept (grown_none hGs) (by simp) (by simp)
    have HR2 := Lib.hid hR2
    have Hm2 := Lib.hid (hm1.later hGs)
    have Hrg2 := Lib.hid hrg2
    have HFv := Lib.hid hFv
    have s0 := hBs.cell 0
    have s1 := hBs.cell 1
    have sl := hBs.lt
    by_cases hd : cv = 0
    · obtain ⟨w', cnt', hrunD, hrg3, hle, hturn⟩ := hrg2.drop keyed_pl und_mpl (keyL_of f' k' hf1 hk1) 0
      rw [Maps.strike_twice] at hrg3
      have hR3 := hR2.gone hturn.grown HSm.out (f := f') (k := k') (by rw [hFv, hd])
      have hm3 := (Hm2.out.kept (W' := w') (fun k c h => (hturn.grown.block k (Array.getElem?_eq_some_iff.1 h).1 (fun e => by
        simp at e
        subst e
        obtain ⟨_, _, hb, _⟩ := hrg2.owns
        rw [hb] at h; cases h)).trans h))
      have HR3 := Lib.hid hR3
      have Hrg3 := Lib.hid hrg3
      have Hm3 := Lib.hid hm3
      have d1 : (cv == 0) = true := by simpa using hd
      clear hkey hlk hv hat hgr hsz hS hFv hy hwf hR1 hm1 hrg1 hGs hBs hR2 hrg2 hrg3 hturn hR3 hm3 HR Hrg Hm
      go_wp2
      refine hK _ _ (m - 1) (by omega) ⟨rfl, _, _, cnt', by omega, HR3.out, Hrg3.out, Hm3.out, ?_⟩
      repeat (first | exact fits_nil | refine fits_none ?_ | refine fits_some ?_)
    · have HR3 := Lib.hid (HR2.out.stay HSm.out hFv hd)
      have d1 : (cv == 0) = false := by simpa using hd
      clear hkey hlk hv hat hgr hsz hS hFv hy hwf hR1 hm1 hrg1 hGs hBs hR2 hrg2 HR Hrg Hm
      go_wp2
      refine hK _ _ (m - 1) (by omega) ⟨rfl, _, _, cnt1, by omega, HR3.out, Hrg2.out, Hm2.out, ?_⟩
      repeat (first | exact fits_nil | refine fits_none ?_ | refine fits_some ?_)
end Go.Proofs.Ytmfiggbobaihcaa
