/- grade.CheckProof. -/
import Derived.Test.YtmfiggbobaihcaaGSpanA
namespace Go.Proofs.Ytmfiggbobaihcaa
open Go.RowKit Go.Shelf

/-- Price and proof. -/
def quM (P L : List Int) : Nat → Int := fun k => P.getD k 0 + L.getD k 0
/-- The least of the first numbers. -/
def lowQ (q : Nat → Int) : Nat → Int
  | 0 => q 0
  | g + 1 => min (lowQ q g) (q (g + 1))
theorem minL_down (q : Nat → Int) : ∀ (g : Nat) (x : Int), minL x ((downL g).map q) = min x (lowQ q g)
  | 0, x => by
    show (if q 0 < x then q 0 else x) = min x (q 0)
    split <;> omega
  | g + 1, x => by
    show minL (if q (g + 1) < x then q (g + 1) else x) ((downL g).map q) = min x (min (lowQ q g) (q (g + 1)))
    rw [minL_down q g]
    split <;> omega
theorem minL_own (q : Nat → Int) : ∀ g : Nat, ∃ x l, (downL g).map q = x :: l ∧ minL x l = lowQ q g
  | 0 => ⟨q 0, [], rfl, rfl⟩
  | g + 1 => ⟨q (g + 1), (downL g).map q, rfl, by rw [minL_down]; show min (q (g + 1)) (lowQ q g) = min (lowQ q g) (q (g + 1)); omega⟩
/-- What orders cost, at least, by a proof. -/
def prT (O : List Od) (q : Nat → Int) : Nat → Int := sumF fun i => mAt O i * lowQ q (grO O i)
/-- What the stock is worth, by a proof. -/
def stT (S L : List Int) : Nat → Int := sumF fun g => L.getD g 0 * S.getD g 0
/-- What a proof proves. -/
def proofV (S P : List Int) (O : List Od) (L : List Int) : Int := prT O (quM P L) O.length - stT S L L.length
/-- What CheckProof returns. -/
def proofR (S P : List Int) (O : List Od) (L : List Int) : Int × Int :=
  if shopE S P O ≠ 0 then (0, shopE S P O) else if L.length ≠ S.length then (0, 15) else if L.any (outR 0 100) then (0, 3) else (proofV S P O L, 0)
theorem getD_in {L : List Int} {lo hi : Int} (h : ∀ x ∈ L, lo ≤ x ∧ x ≤ hi) (h0 : lo ≤ 0 ∧ 0 ≤ hi) (g : Nat) : lo ≤ L.getD g 0 ∧ L.getD g 0 ≤ hi := by
  rw [List.getD_eq_getElem?_getD]
  cases hx : L[g]? with
  | none => simpa using h0
  | some x => simpa using h x (List.mem_of_getElem? hx)
theorem lowQ_bound {q : Nat → Int} {b : Int} (h : ∀ k, 0 ≤ q k ∧ q k ≤ b) : ∀ g, 0 ≤ lowQ q g ∧ lowQ q g ≤ b
  | 0 => h 0
  | g + 1 => by
    have h1 := lowQ_bound h g
    have h2 := h (g + 1)
    show 0 ≤ min (lowQ q g) (q (g + 1)) ∧ min (lowQ q g) (q (g + 1)) ≤ b
    omega
theorem sumF_bound {f : Nat → Int} {b : Int} : ∀ n : Nat, (∀ i, i < n → 0 ≤ f i ∧ f i ≤ b) → 0 ≤ sumF f n ∧ sumF f n ≤ b * n
  | 0, _ => ⟨Int.le_refl _, by simp [sumF]⟩
  | n + 1, h => by
    have h1 := sumF_bound n fun i hi => h i (by omega)
    have h2 := h n (by omega)
    have h3 : sumF f (n + 1) = sumF f n + f n := rfl
    rw [h3, Int.natCast_add, Int.mul_add]
    omega
theorem mul_bound {a b A B : Int} (ha : 0 ≤ a ∧ a ≤ A) (hb : 0 ≤ b ∧ b ≤ B) : 0 ≤ a * b ∧ a * b ≤ A * B := ⟨Int.mul_nonneg ha.1 hb.1, Int.mul_le_mul ha.2 hb.2 hb.1 (by omega)⟩
section
variable {S P : List Int} {O : List Od} {L : List Int}
theorem quM_bound (hF : Fine S P O) (hL : ∀ x ∈ L, 0 ≤ x ∧ x ≤ 100) (k : Nat) : 0 ≤ quM P L k ∧ quM P L k ≤ 200 := by
  have h1 := getD_in hF.prc (by omega) k
  have h2 := getD_in hL (by omega) k
  unfold quM
  omega
theorem prT_bound (hF : Fine S P O) (hL : ∀ x ∈ L, 0 ≤ x ∧ x ≤ 100) {i : Nat} (hi : i ≤ O.length) : 0 ≤ prT O (quM P L) i ∧ prT O (quM P L) i ≤ 4000 * 8 := by
  have h := sumF_bound (f := fun i => mAt O i * lowQ (quM P L) (grO O i)) (b := 4000) i fun j hj => by
    have h1 := (hF.oin.at_ (i := j) (by omega)).2
    have h2 := lowQ_bound (quM_bound hF hL) (grO O j)
    exact mul_bound h1 h2
  have := hF.o8
  unfold prT
  omega
theorem stT_bound (hF : Fine S P O) (hL : ∀ x ∈ L, 0 ≤ x ∧ x ≤ 100) {i : Nat} (hi : i ≤ 5) : 0 ≤ stT S L i ∧ stT S L i ≤ 5000 * 5 := by
  have h := sumF_bound (f := fun g => L.getD g 0 * S.getD g 0) (b := 5000) i fun j _ => mul_bound (getD_in hL (by omega) j) (getD_in hF.stk (by omega) j)
  unfold stT
  omega
end
/-! ### The walk -/
/-- The boxes of CheckProof: block N the shop, N + 1 the proof. -/
structure PV (w W : World) (T : Nat) (SA : Option Addr) (sn sc : Nat) (PA : Option Addr) (pn pc : Nat) (OA : Option Addr) (on oc : Nat) (S P : List Int) (O : List Od) (LA : Option Addr) (ln lc : Nat) : Prop where
  bel : Below w.heap.size w W
  b0 : Blk W w.heap.size 25 #[.slice SA sn sc, .slice PA pn pc, .slice OA on oc]
  b1 : Blk W (w.heap.size + 1) 22 #[.slice LA ln lc]
  v0 : Blk W T 83 (stoC SA sn sc PA pn pc OA on oc (stockM S))
section
variable {w W W' : World} {T : Nat} {SA : Option Addr} {sn sc : Nat} {PA : Option Addr} {pn pc : Nat} {OA : Option Addr} {on oc : Nat} {S P : List Int} {O : List Od} {LA : Option Addr} {ln lc : Nat}
theorem PV.later (h : PV w W T SA sn sc PA pn pc OA on oc S P O LA ln lc) (hb : Below W.heap.size W W') : PV w W' T SA sn sc PA pn pc OA on oc S P O LA ln lc := ⟨Below.later h.bel hb, h.b0.later hb, h.b1.later hb, h.v0.later hb⟩
theorem PV.kept {B : Nat} (h : PV w W T SA sn sc PA pn pc OA on oc S P O LA ln lc) (hk : Kept B W W') (hB : w.heap.size ≤ B) : PV w W' T SA sn sc PA pn pc OA on oc S P O LA ln lc :=
  ⟨h.bel.trans ⟨hk.os, hk.tape, hk.output, hk.size, fun k hk' => hk.low k (by omega) (by have := h.bel.size; omega)⟩, h.b0.kept hk, h.b1.kept hk, h.v0.kept hk⟩
theorem PV.grown {B : Nat} (h : PV w W T SA sn sc PA pn pc OA on oc S P O LA ln lc) {row : Option Nat} (hg : W.grownBy W' row) (hr : ∀ b, row = some b → B ≤ b) (hB : w.heap.size + 1 < B ∧ T < B) : PV w W' T SA sn sc PA pn pc OA on oc S P O LA ln lc :=
  ⟨h.bel.trans ⟨hg.os, hg.tape, hg.output, hg.size, fun k hk => hg.block k (by have := h.bel.size; omega) (fun e => by have := hr k e.symm; omega)⟩, h.b0.grown hg (fun e => by have := hr _ e; omega), h.b1.grown hg (fun e => by have := hr _ e; omega), h.v0.grown hg (fun e => by have := hr _ e; omega)⟩
theorem PV.set (h : PV w W T SA sn sc PA pn pc OA on oc S P O LA ln lc) {p : Addr} (hp : w.heap.size + 1 < p.block ∧ p.block ≠ T) (u : Value) : PV w (W.setCell p u) T SA sn sc PA pn pc OA on oc S P O LA ln lc :=
  ⟨h.bel.setCell (by omega) _, h.b0.other (by omega) _, h.b1.other (by omega) _, h.v0.other hp.2 _⟩
end
/-- A new slice of one number. -/
def OneI (B : Nat) (x : Int) (v : Value) (W : World) : Prop := ∃ g, v = .slice (some ⟨g, 0, none⟩) 1 1 ∧ B ≤ g ∧ g < W.heap.size ∧ W.cell? ⟨g, 0, none⟩ = some (.int .i64 x)
theorem OneI.stab {B : Nat} {x : Int} : ∀ v W W', Gr W W' → OneI B x v W → OneI B x v W' := fun _ _ _ hG ⟨g, h1, h2, h3, h4⟩ => ⟨g, h1, h2, Nat.lt_of_lt_of_le h3 hG.size, (hG.cell (p := ⟨g, 0, none⟩) h3).trans h4⟩
theorem OneI.grown {B : Nat} {x : Int} {v : Value} {W W' : World} {row : Option Nat} (h : OneI B x v W) (hg : W.grownBy W' row) (hr : ∀ r, row = some r → r < B) : OneI B x v W' := by
  obtain ⟨g, h1, h2, h3, h4⟩ := h
  exact ⟨g, h1, h2, Nat.lt_of_lt_of_le h3 hg.size, (World.cell?_of_block (a := ⟨g, 0, none⟩) (hg.block g h3 (fun e => by have := hr g e.symm; omega))).trans h4⟩
def RowI (B : Nat) (xs : List Int) (v : Value) (W : World) : Prop := W.ownsRow B 2 1 v xs.length (xs.map (Value.int .i64))
theorem RowI.stab {B : Nat} {xs : List Int} : ∀ v W W', Gr W W' → RowI B xs v W → RowI B xs v W' := fun _ _ _ hG h => own_later h hG
theorem one_newsI {W : World} {g : Nat} {x : Int} (h : W.cell? ⟨g, 0, none⟩ = some (.int .i64 x)) : ∀ j u, [Value.int .i64 x][j]? = some u → W.cell? ((⟨g, 0, none⟩ : Addr).add j) = some u := by
  intro j u hu
  obtain rfl : j = 0 := by
    have := (List.getElem?_eq_some_iff.1 hu).1
    simp at this
    omega
  rw [show (⟨g, 0, none⟩ : Addr).add 0 = ⟨g, 0, none⟩ from rfl, h]
  simpa using hu
theorem run_app_i {W : World} {B : Nat} {v : Value} {xs : List Int} {x : Int} {g : Nat} (ty : TypeId) (hown : W.ownsRow B 2 1 v xs.length (xs.map (Value.int .i64))) (hg : W.cell? ⟨g, 0, none⟩ = some (.int .i64 x)) (hn : xs.length ≤ 1000) (hb : B ≤ W.heap.size) :
    ∃ v' W', (Builtin.append_ #[22, 22] ty #[v, .slice (some ⟨g, 0, none⟩) 1 1]).run Try.prog W = .ok v' W' ∧ (W.grownBy W' v.ownBlock ∧ RowI B (xs ++ [x]) v' W') := by
  obtain ⟨i0, hi0, hz0, hz1, hz2⟩ := info_parts info_long
  obtain ⟨v', W', h1, h2, h3, _⟩ := run_append_own (P := Try.prog) W B 22 ty 2 i0 (.int .i64 0) 1 8 und_longs hi0 hz0 hz1 hz2 rfl (by decide) v xs.length _ hown ⟨g, 0, none⟩ 1 1 [.int .i64 x] rfl (one_newsI hg) (by simp [Value.oneCell']) (by simp only [maxLen]; omega) (by omega) hb
  refine ⟨v', W', h1, h3, ?_⟩
  have h2' := h2
  unfold RowI
  simpa using h2'
/-- A region with an append to a row whose block is known, in a round. -/
theorem dagRowIn (n k : Nat) (row : Option Nat) {F : Fence} {kk : Nat} {P : Program} {Q : Exit → Act → World → Prop} {a : Act} {w : World} {id : Nat} {m : List Oper} (hF : Lets F kk P) (hm : P.follows .mixedOrders = true) (hB : dagFit n m = true) (specs : List Spec) (hlen : specs.length = n)
    (hst : ∀ s ∈ specs, ∀ v W W', Gr W W' → s.ok v W → s.ok v W')
    (hgd : ∀ o, m[k]? = some o → o.guard = none) (hst2 : ∀ s ∈ specs.eraseIdx k, ∀ v W W', Gr w W ∧ W.grownBy W' row → s.ok v W → s.ok v W')
    (h : ∀ env W, w.grownBy W row → OblsKA (Ap.row w k row) P m.toArray specs env W (dagEndA (Ap.row w k row) P Q specs env W) 0 m specs a) :
    (Code.region id m.toArray true).wpIn F kk P Q a w :=
  dagAIn (p := Ap.row w k row) n hF hm hB specs hlen (Ap.row_good w k row) (fun _ h => h) hst hgd (fun i s hi _ _ hs v W W' h1 h2 => hst2 s (List.mem_eraseIdx_iff_getElem?.2 ⟨i, hi, hs⟩) v W W' ⟨h1, h2⟩) h
end Go.Proofs.Ytmfiggbobaihcaa
