/-
  Layer 27: the walk of lent.
-/
import Derived.OrdersHeld
import Derived.RegionTactic
import Derived.Test.YthkfcfkkamffpaaGreatRead
import Derived.Test.YthkfcfkkamffpaaGreatYr
import Derived.Test.YthkfcfkkamffpaaGreatRef
import Derived.BigRegion
import Derived.Deep.RegionHeld3
import Derived.Deep.DeepCutAuto
namespace Go.Proofs.YthkfcfkkamffpaaGreat
section
variable {P : Program} {ops : Array Oper} {Q : Exit → Act → World → Prop} {md : Region.Mode} {T : Array Bool → World → Prop}
/-- whatever order is picked, T holds of what has come up and of the world behind every operation -/
def Till (P : Program) (md : Region.Mode) (ops : Array Oper) (Q : Exit → Act → World → Prop) (T : Array Bool → World → Prop) : Nat → Array Bool → Act → World → Prop
  | 0, l, a, w => Region.ready md ops l = [] ∧ Q .normal a w
  | f + 1, l, a, w => (Region.ready md ops l = [] → Q .normal a w) ∧
      ∀ i ∈ Region.ready md ops l, wpOp P ops Q i (fun a' w' => T (l.setIfInBounds i true) w' ∧ Till P md ops Q T f (l.setIfInBounds i true) a' w') a w
theorem Till.any : ∀ (f : Nat) (l : Array Bool) (a : Act) (w : World), Till P md ops Q T f l a w → wpAny P md ops Q f l a w
  | 0, _, _, _, h => h
  | f + 1, _, _, _, h => ⟨h.1, fun i hi => wpOp_mono (fun a' w' h' => Till.any f _ a' w' h'.2) (h.2 i hi)⟩
/-- an operation that reads is taken first: while it has not come up, G holds of what has, and T and G give the world that it reads -/
theorem Till.first {S : World → Prop} {G : Array Bool → Prop} {i : Nat} {oi : Oper} {v : Value} (hi : ops[i]? = some oi) (hsel : ∀ (j : Nat) (o : Oper) cs b, ops[j]? = some o → o.op ≠ .select cs b)
    (hQ : ∀ c a w, Q (.panic c) (a.put oi.dst v) w → Q (.panic c) a w) (hS : ∀ l w, G l → T l w → S w) (hG : ∀ l j, i ∈ Region.ready md ops l → j ∈ Region.ready md ops l → j ≠ i → G l → G (l.setIfInBounds j true))
    (hT : ∀ l w, T (l.setIfInBounds i true) w ↔ T l w) :
    ∀ (f : Nat) (l : Array Bool) (a : Act) (w : World),
      (∀ j oj, ops[j]? = some oj → j ≠ i → l.getD j true = false → (∀ e ∈ oj.after, Region.binds md e = true → e.on ≠ i) → oi.apart ops oj = true) →
      i ∈ Region.ready md ops l → G l → YieldsIf P ops S oi v a → T l w →
      Till P md ops Q T f (l.setIfInBounds i true) (a.put oi.dst v) w → Till P md ops Q T (f + 1) l a w := by
  intro f
  induction f with
  | zero =>
    intro l a w _ hr hg hy ht H
    refine ⟨fun h => (by rw [h] at hr; cases hr), fun j hj => ?_⟩
    by_cases e : j = i
    · subst e; exact hy.wpOp hi (hS l w hg ht) ⟨(hT l w).2 ht, H⟩
    · have h0 := ready_mono hj e
      rw [H.1] at h0
      cases h0
  | succ f ih =>
    intro l a w hfree hr hg hy ht H
    refine ⟨fun h => (by rw [h] at hr; cases hr), fun j hj => ?_⟩
    by_cases e : j = i
    · subst e; exact hy.wpOp hi (hS l w hg ht) ⟨(hT l w).2 ht, H⟩
    have h1 := H.2 j (ready_mono hj e)
    obtain ⟨hju, oj, hoj, hall⟩ := mem_ready.1 hj
    have hiu := (mem_ready.1 hr).1
    have hnot : ∀ x ∈ oj.after, Region.binds md x = true → x.on ≠ i := fun x hx hb he => by
      have a1 := hall x hx hb
      rw [he] at a1
      rcases Nat.lt_or_ge i l.size with k | k
      · simp [k] at a1 hiu; rw [hiu] at a1; cases a1
      · simp [Array.getElem?_eq_none k] at a1
    have h2 := wpOp_putIf hoj (hfree j oj hoj e hju hnot) (fun cs b => hsel i oi cs b hi) (fun cs b => hsel j oj cs b hoj) hQ hy h1
    refine wpOp_mono (fun a' w' h3 => ?_) h2
    obtain ⟨hy', ht', H'⟩ := h3
    rw [Array.setIfInBounds_comm _ _ (Ne.symm e)] at ht' H'
    have ht2 := (hT _ _).1 ht'
    refine ⟨ht2, ih (l.setIfInBounds j true) a' w' (fun k ok hk hki hku hkn => ?_) (ready_mono hr (Ne.symm e)) (hG l j hr hj e hg) hy' ht2 H'⟩
    by_cases ejk : j = k
    · subst ejk; exact hfree j ok hk hki hju hkn
    · rw [getD_set_ne true ejk] at hku; exact hfree k ok hk hki hku hkn
/-- S1 always, S0 till operation n comes up -/
def tillT (S1 S0 : World → Prop) (n : Nat) (l : Array Bool) (w : World) : Prop := S1 w ∧ (l.getD n true = false → S0 w)
theorem tillT_set {S1 S0 : World → Prop} {n i : Nat} (h : i ≠ n) (l : Array Bool) (w : World) : tillT S1 S0 n (l.setIfInBounds i true) w ↔ tillT S1 S0 n l w := by
  unfold tillT; rw [getD_set_ne true h]
/-- does operation n wait for operation i? -/
def waits_ (md : Region.Mode) (ops : Array Oper) (n i : Nat) : Bool := match ops[n]? with
  | some o => o.after.any fun e => Region.binds md e && e.on == i
  | none => false
variable {S1 S0 : World → Prop} {n : Nat}
/-- one that reads what holds always -/
theorem Till.take1 {i : Nat} {oi : Oper} {v : Value} {f : Nat} {l : Array Bool} {a : Act} {w : World} (hi : ops[i]? = some oi) (hs : Region.noSelect ops = true) (hf : Region.free md ops l i = true)
    (hr : (Region.ready md ops l).contains i = true) (hn : (i == n) = false) (hQ : ∀ c a w, Q (.panic c) (a.put oi.dst v) w → Q (.panic c) a w) (hy : YieldsIf P ops S1 oi v a) (ht : tillT S1 S0 n l w)
    (h : Till P md ops Q (tillT S1 S0 n) f (l.setIfInBounds i true) (a.put oi.dst v) w) : Till P md ops Q (tillT S1 S0 n) (f + 1) l a w :=
  Till.first (S := S1) (G := fun _ => True) hi (Region.noSelect_spec hs) hQ (fun _ _ _ h => h.1) (fun _ _ _ _ _ _ => trivial) (fun l w => tillT_set (by simpa using hn) l w) f l a w (Region.free_spec hi hf) (by simpa using hr) trivial hy ht h
/-- one that reads what holds till operation n, and n waits for it -/
theorem Till.take0 {i : Nat} {oi : Oper} {v : Value} {f : Nat} {l : Array Bool} {a : Act} {w : World} (hi : ops[i]? = some oi) (hs : Region.noSelect ops = true) (hf : Region.free md ops l i = true)
    (hr : (Region.ready md ops l).contains i = true) (hn : (i == n) = false) (hw : waits_ md ops n i = true) (hl : l.getD n true = false) (hQ : ∀ c a w, Q (.panic c) (a.put oi.dst v) w → Q (.panic c) a w) (hy : YieldsIf P ops S0 oi v a) (ht : tillT S1 S0 n l w)
    (h : Till P md ops Q (tillT S1 S0 n) f (l.setIfInBounds i true) (a.put oi.dst v) w) : Till P md ops Q (tillT S1 S0 n) (f + 1) l a w := by
  refine Till.first (S := S0) (G := fun l => l.getD n true = false) hi (Region.noSelect_spec hs) hQ (fun _ _ hg h => h.2 hg) ?_ (fun l w => tillT_set (by simpa using hn) l w) f l a w (Region.free_spec hi hf) (by simpa using hr) hl hy ht h
  intro l j hir hjr hji hg
  by_cases e : j = n
  · exfalso
    subst e
    obtain ⟨hju, oj, hoj, hall⟩ := mem_ready.1 hjr
    have hiu := (mem_ready.1 hir).1
    unfold waits_ at hw
    rw [hoj] at hw
    obtain ⟨x, hx, hb⟩ := Array.any_eq_true'.1 hw
    simp only [Bool.and_eq_true, beq_iff_eq] at hb
    have a1 := hall x hx hb.1
    rw [hb.2] at a1
    rcases Nat.lt_or_ge i l.size with k | k
    · simp [k] at a1 hiu; rw [hiu] at a1; cases a1
    · simp [Array.getElem?_eq_none k] at a1
  · rw [getD_set_ne true e]; exact hg
/-- one alone may come up -/
theorem Till.one {i : Nat} {o : Oper} {f : Nat} {l : Array Bool} {a : Act} {w : World} (hr : Region.ready md ops l = [i]) (ho : ops[i]? = some o) (hw : Region.wanted o (yielded ops a.tmps) = true)
    (h : ∀ K : Act → World → Prop, (∀ a' w', T (l.setIfInBounds i true) w' → Till P md ops Q T f (l.setIfInBounds i true) a' w' → K a' w') → Oper.wp P o a w K Q) : Till P md ops Q T (f + 1) l a w := by
  refine ⟨fun h0 => (by rw [hr] at h0; cases h0), fun j hj => ?_⟩
  rw [hr, List.mem_singleton] at hj
  subst hj
  unfold wpOp
  simp only [ho, hw, if_true]
  exact .inl (h _ fun a' w' h1 h2 => ⟨h1, h2⟩)
theorem Till.done {l : Array Bool} {a : Act} {w : World} (hr : Region.ready md ops l = []) (h : Q .normal a w) : ∀ f, Till P md ops Q T f l a w
  | 0 => ⟨hr, h⟩
  | _ + 1 => ⟨fun _ => h, by rw [hr]; simp⟩
theorem Till.start {id : Nat} {a : Act} {w : World} (hm : P.follows .mixedOrders = true) (h : Till P .any ops Q T ops.size (Array.replicate ops.size false) a w.drew) : (Code.region id ops true).wp P Q a w :=
  wp_region_any hm (Till.any _ _ _ _ h)
end
end Go.Proofs.YthkfcfkkamffpaaGreat
namespace Go.Proofs.YthkfcfkkamffpaaGreat
open Go.RowKit
set_option linter.unusedVariables false
set_option linter.unusedSimpArgs false
open Wm (M)
/-- the marks -/
def markD (c : UInt8) (i : Nat) : List UInt8 := c :: UInt8.ofNat i :: List.replicate 30 0
def markP (i : Nat) : List UInt8 × List UInt8 := ([109, 97, 114, 107], [UInt8.ofNat i])
def markY (i : Nat) : Int := -100 - i
def marksD (c : UInt8) (i : Nat) : List (List UInt8) := (List.range i).map (markD c)
def marksP (i : Nat) : List (List UInt8 × List UInt8) := (List.range i).map markP
def marksY (i : Nat) : List Int := (List.range i).map markY
theorem marksD_succ (c : UInt8) (i : Nat) : marksD c (i + 1) = marksD c i ++ [markD c i] := by simp [marksD, List.range_succ]
theorem marksP_succ (i : Nat) : marksP (i + 1) = marksP i ++ [markP i] := by simp [marksP, List.range_succ]
theorem marksY_succ (i : Nat) : marksY (i + 1) = marksY i ++ [markY i] := by simp [marksY, List.range_succ]
theorem marksD_len (c : UInt8) (i : Nat) : (marksD c i).length = i := by simp [marksD]
theorem marksP_len (i : Nat) : (marksP i).length = i := by simp [marksP]
theorem marksY_len (i : Nat) : (marksY i).length = i := by simp [marksY]
theorem markD_len (c : UInt8) (i : Nat) : (markD c i).length = 32 := rfl
theorem markD_lit (c : UInt8) (i : Nat) (h : i < 256) : (bys (markD c i)).toArray = #[.int .u8 c.toNat, .int .u8 i, .int .u8 0, .int .u8 0, .int .u8 0, .int .u8 0, .int .u8 0, .int .u8 0, .int .u8 0, .int .u8 0, .int .u8 0, .int .u8 0, .int .u8 0, .int .u8 0, .int .u8 0, .int .u8 0, .int .u8 0, .int .u8 0, .int .u8 0, .int .u8 0, .int .u8 0, .int .u8 0, .int .u8 0, .int .u8 0, .int .u8 0, .int .u8 0, .int .u8 0, .int .u8 0, .int .u8 0, .int .u8 0, .int .u8 0, .int .u8 0] := by
  have h2 : (UInt8.ofNat i).toNat = i := by simp; omega
  simp [bys, markD, h2, List.replicate]
/-- a list that reads so, as a source of an append -/
theorem RL.reads {w : World} {A : Option Addr} {size n : Nat} {xs : List Value} (h : RL w A size n xs) (hz : 0 < size) : Reads w w.heap.size size A n xs :=
  ⟨h.1, fun hn => by
    obtain ⟨b, off, rfl, hc⟩ := h.2 hn
    refine ⟨⟨b, off, none⟩, rfl, h.lt hz b off hn rfl, fun j u hu => ?_⟩
    have hadd : (⟨b, off, none⟩ : Addr).add j = ⟨b, off + j, none⟩ := by unfold Addr.add; split <;> simp_all
    rw [hadd]
    exact hc j u hu⟩
/-- what the walk of lent keeps: the message at g1, the new one at g3 with the slices L, its four own rows -/
structure Ln (w0 : World) (base g1 g2 g3 : Nat) (m : M) (L0 : Ls) (vt vs vp vy : Value) (T U : List (List UInt8)) (P : List (List UInt8 × List UInt8)) (Y : List Int) (L : Ls) (w : World) : Prop where
  b1 : IsM w g1 m L0
  b2 : Blk w g2 36 Tryz.zeroCells36
  b3 : IsM w g3 m L
  t : w.ownsRow base 27 32 vt T.length (T.flatMap fun x => bys x)
  s : w.ownsRow base 27 32 vs U.length (U.flatMap fun x => bys x)
  p : w.ownsRow base 75 2 vp P.length (P.flatMap fun x => [S x.1, S x.2])
  y : w.ownsRow base 3 1 vy Y.length (Y.flatMap fun x => [.int .i64 x])
  ts : ∀ b, vt.ownBlock = some b → vs.ownBlock ≠ some b
  chg : Chg (fun _ => False) w0 w
  lt1 : g1 < base
  lt2 : g2 < base
  lt3 : w0.heap.size ≤ g3 ∧ g3 < base
  ne1 : g1 ≠ g3
  ne2 : g2 ≠ g3
  lb : w0.heap.size ≤ base ∧ base ≤ w.heap.size
section
variable {w0 : World} {base g1 g2 g3 : Nat} {m : M} {L0 : Ls} {vt vs vp vy : Value} {T U : List (List UInt8)} {P : List (List UInt8 × List UInt8)} {Y : List Int} {L : Ls} {w : World}
/-- what an append to a row of one's own leaves of another one -/
theorem own_by {w wa w4 : World} {base size n : Nat} {e : TypeId} {v v1 : Value} {xs : List Value} (h : w.ownsRow base e size v n xs) (hc : Chg (fun _ => False) w wa) (hg : wa.grownBy w4 v1.ownBlock) (hne : ∀ b, v1.ownBlock = some b → v.ownBlock ≠ some b) : w4.ownsRow base e size v n xs :=
  own_chg (own_chg h hc (fun _ _ h => h)) (Chg.of_grown hg) (fun k hk e => hne k e hk)
theorem own_st {w : World} {base size n g i : Nat} {e : TypeId} {v u : Value} {xs : List Value} (h : w.ownsRow base e size v n xs) (hg : g < base) : (w.setCell ⟨g, i, none⟩ u).ownsRow base e size v n xs :=
  own_far h (fun e => by have := (h.lt _ e).1; simp at this; omega) u
theorem Ln.blks (h : Ln w0 base g1 g2 g3 m L0 vt vs vp vy T U P Y L w) {wa w4 : World} {row : Option Nat} (hc : Chg (fun _ => False) w wa) (hg : wa.grownBy w4 row) (hr : ∀ k, row = some k → base ≤ k) :
    IsM w4 g1 m L0 ∧ Blk w4 g2 36 Tryz.zeroCells36 ∧ IsM w4 g3 m L ∧ Chg (fun k => row = some k) w w4 := by
  have hcc : Chg (fun k => row = some k) w w4 := (hc.mono (S' := fun k => row = some k) (fun _ _ h => h.elim)).andThen (Chg.of_grown hg) (fun _ _ e => e)
  exact ⟨h.b1.chg hcc (fun e => by have := hr _ e; have := h.lt1; omega), h.b2.chg hcc (fun e => by have := hr _ e; have := h.lt2; omega), h.b3.chg hcc (fun e => by have := hr _ e; have := h.lt3; omega), hcc⟩
end
/-- a slice literal of a mark -/
theorem bs_mark (c : UInt8) (z : Int) (i : Nat) (hz : (c.toNat : Int) = z) (h : i < 256) (W3 : World) : (bslice 32 1 #[(0, .agg #[.int .u8 z, .int .u8 i, .int .u8 0, .int .u8 0, .int .u8 0, .int .u8 0, .int .u8 0, .int .u8 0, .int .u8 0, .int .u8 0, .int .u8 0, .int .u8 0, .int .u8 0, .int .u8 0, .int .u8 0, .int .u8 0, .int .u8 0, .int .u8 0, .int .u8 0, .int .u8 0, .int .u8 0, .int .u8 0, .int .u8 0, .int .u8 0, .int .u8 0, .int .u8 0, .int .u8 0, .int .u8 0, .int .u8 0, .int .u8 0, .int .u8 0, .int .u8 0])]).run Tryz.prog W3 = .ok (.slice (some ⟨W3.heap.size, 0, none⟩) 1 1) (W3.alloc (.cells (bys (markD c i)).toArray 27)) := by
  subst hz
  rw [← markD_lit c i h]
  exact bs_dig (markD c i) rfl W3
theorem Reads.dig (w : World) (d : List UInt8) (hd : d.length = 32) : Reads (w.alloc (.cells (bys d).toArray 27)) (w.heap.size + 1) 32 (some ⟨w.heap.size, 0, none⟩) [d].length ([d].flatMap fun x => bys x) := by
  have := Reads.many w 27 (bys d).toArray (bys d) 32 (by rw [bys_length, hd]) rfl
  simpa using this
theorem Reads.pair1 (w : World) (o : Obj) (x : List UInt8 × List UInt8) : Reads ((w.alloc o).alloc (.cells #[S x.1, S x.2] 75)) (w.heap.size + 1 + 1) 2 (some ⟨w.heap.size + 1, 0, none⟩) [x].length ([x].flatMap fun x => [S x.1, S x.2]) := by
  have := Reads.many (w.alloc o) 75 #[S x.1, S x.2] [S x.1, S x.2] 2 rfl rfl
  simpa using this
theorem Reads.int (w : World) (x : Int) : Reads (w.alloc (.cells #[.int .i64 x] 3)) (w.heap.size + 1) 1 (some ⟨w.heap.size, 0, none⟩) [x].length ([x].flatMap fun x => [.int .i64 x]) := by
  have := Reads.many w 3 #[.int .i64 x] [.int .i64 x] 1 rfl rfl
  simpa using this
/-- an append to a row of one's own -/
theorem app_dig {w : World} {base B c : Nat} {v : Value} {T X Z : List (List UInt8)} {A : Option Addr} (hown : w.ownsRow base 27 32 v T.length (T.flatMap fun x => bys x)) (hr : Reads w B 32 A X.length (X.flatMap fun x => bys x))
    (hZ : Z = T ++ X) (hn : T.length + X.length ≤ 2097152) (hb : base ≤ w.heap.size) {ops : Array Oper} {rest : List Oper} {o : Oper} {a : Act} {Q : Exit → Act → World → Prop} (s x : Operand) (h1 : o.guard = none)
    (h2 : o.op = .call { callee := .builtin .append, args := #[s, x], argTypes := #[32, 32] }) (h3 : a.eval s = v) (h4 : a.eval x = .slice A X.length c)
    (h : ∀ v4 w4, w4.ownsRow base 27 32 v4 Z.length (Z.flatMap fun x => bys x) → w.grownBy w4 v.ownBlock → (v4.ownBlock = v.ownBlock ∨ v4.ownBlock = some w.heap.size) → wpList Tryz.prog ops Q rest (a.put o.dst v4) w4) : wpList Tryz.prog ops Q (o :: rest) a w := by
  obtain ⟨i0, hi0, hz0, hz1, hz2⟩ := info_parts info_digz
  refine wpList_append_any (P := Tryz.prog) w h1 s x 32 h2 base 27 i0 _ 32 32 Tryz.underlying32 hi0 hz0 hz1 hz2 rfl (by omega) v T.length (T.flatMap fun x => bys x) h3 hown B A X.length c (X.flatMap fun x => bys x) h4 hr (fun u hu => by
      obtain ⟨x, _, hx⟩ := List.mem_flatMap.1 hu
      exact bys_one x u hx) (by unfold maxLen; omega) (by omega) hb ?_
  intro v4 w4 a1 a2 a3
  refine h v4 w4 ?_ a2 a3
  rw [hZ, List.length_append, List.flatMap_append]
  exact a1
/-- an append to a row of one's own -/
theorem app_pair {w : World} {base B c : Nat} {v : Value} {T X Z : List (List UInt8 × List UInt8)} {A : Option Addr} (hown : w.ownsRow base 75 2 v T.length (T.flatMap fun x => [S x.1, S x.2])) (hr : Reads w B 2 A X.length (X.flatMap fun x => [S x.1, S x.2]))
    (hZ : Z = T ++ X) (hn : T.length + X.length ≤ 2097152) (hb : base ≤ w.heap.size) {ops : Array Oper} {rest : List Oper} {o : Oper} {a : Act} {Q : Exit → Act → World → Prop} (s x : Operand) (h1 : o.guard = none)
    (h2 : o.op = .call { callee := .builtin .append, args := #[s, x], argTypes := #[33, 33] }) (h3 : a.eval s = v) (h4 : a.eval x = .slice A X.length c)
    (h : ∀ v4 w4, w4.ownsRow base 75 2 v4 Z.length (Z.flatMap fun x => [S x.1, S x.2]) → w.grownBy w4 v.ownBlock → (v4.ownBlock = v.ownBlock ∨ v4.ownBlock = some w.heap.size) → wpList Tryz.prog ops Q rest (a.put o.dst v4) w4) : wpList Tryz.prog ops Q (o :: rest) a w := by
  obtain ⟨i0, hi0, hz0, hz1, hz2⟩ := info_parts info_pair
  refine wpList_append_any (P := Tryz.prog) w h1 s x 33 h2 base 75 i0 _ 2 32 Tryz.underlying33 hi0 hz0 hz1 hz2 rfl (by omega) v T.length (T.flatMap fun x => [S x.1, S x.2]) h3 hown B A X.length c (X.flatMap fun x => [S x.1, S x.2]) h4 hr (fun u hu => by
      obtain ⟨x, _, hx⟩ := List.mem_flatMap.1 hu
      simp only [List.mem_cons, List.not_mem_nil, or_false] at hx
      rcases hx with rfl | rfl <;> rfl) (by unfold maxLen; omega) (by omega) hb ?_
  intro v4 w4 a1 a2 a3
  refine h v4 w4 ?_ a2 a3
  rw [hZ, List.length_append, List.flatMap_append]
  exact a1
/-- an append to a row of one's own -/
theorem app_int {w : World} {base B c : Nat} {v : Value} {T X Z : List (Int)} {A : Option Addr} (hown : w.ownsRow base 3 1 v T.length (T.flatMap fun x => [.int .i64 x])) (hr : Reads w B 1 A X.length (X.flatMap fun x => [.int .i64 x]))
    (hZ : Z = T ++ X) (hn : T.length + X.length ≤ 2097152) (hb : base ≤ w.heap.size) {ops : Array Oper} {rest : List Oper} {o : Oper} {a : Act} {Q : Exit → Act → World → Prop} (s x : Operand) (h1 : o.guard = none)
    (h2 : o.op = .call { callee := .builtin .append, args := #[s, x], argTypes := #[34, 34] }) (h3 : a.eval s = v) (h4 : a.eval x = .slice A X.length c)
    (h : ∀ v4 w4, w4.ownsRow base 3 1 v4 Z.length (Z.flatMap fun x => [.int .i64 x]) → w.grownBy w4 v.ownBlock → (v4.ownBlock = v.ownBlock ∨ v4.ownBlock = some w.heap.size) → wpList Tryz.prog ops Q rest (a.put o.dst v4) w4) : wpList Tryz.prog ops Q (o :: rest) a w := by
  obtain ⟨i0, hi0, hz0, hz1, hz2⟩ := info_parts info_int
  refine wpList_append_any (P := Tryz.prog) w h1 s x 34 h2 base 3 i0 _ 1 8 Tryz.underlying34 hi0 hz0 hz1 hz2 rfl (by omega) v T.length (T.flatMap fun x => [.int .i64 x]) h3 hown B A X.length c (X.flatMap fun x => [.int .i64 x]) h4 hr (fun u hu => by
      obtain ⟨x, _, hx⟩ := List.mem_flatMap.1 hu
      simp only [List.mem_cons, List.not_mem_nil, or_false] at hx
      rw [hx]; rfl) (by unfold maxLen; omega) (by omega) hb ?_
  intro v4 w4 a1 a2 a3
  refine h v4 w4 ?_ a2 a3
  rw [hZ, List.length_append, List.flatMap_append]
  exact a1
section
variable {w0 : World} {base g1 g2 g3 : Nat} {m : M} {L0 : Ls} {vt vs vp vy : Value} {T U : List (List UInt8)} {P : List (List UInt8 × List UInt8)} {Y : List Int} {L : Ls} {w : World}
theorem Ln.addT (h : Ln w0 base g1 g2 g3 m L0 vt vs vp vy T U P Y L w) (hd : Dg m) {wa w4 : World} {v4 : Value} {Z : List (List UInt8)} (hc : Chg (fun _ => False) w wa)
    (hown : w4.ownsRow base 27 32 v4 Z.length (Z.flatMap fun x => bys x)) (hg : wa.grownBy w4 vt.ownBlock) (hat : v4.ownBlock = vt.ownBlock ∨ v4.ownBlock = some wa.heap.size) :
    Ln w0 base g1 g2 g3 m L0 v4 vs vp vy Z U P Y { L with t := v4 } (w4.setCell ⟨g3, 79, none⟩ v4) := by
  obtain ⟨c1, c2, c3, cc⟩ := h.blks hc hg (fun k hk => (h.t.lt k hk).1)
  have h3 : IsM (w4.setCell ⟨g3, 79, none⟩ v4) g3 m { L with t := v4 } := by
    have := Blk.set_ c3 79 v4
    rw [set_t _ _ hd] at this
    exact this
  have hcc : Chg (fun _ => False) w0 (w4.setCell ⟨g3, 79, none⟩ v4) := (h.chg.andThen cc (fun k hk e => by have := (h.t.lt k e).1; have := h.lb; omega)).setCell (.inr h.lt3.1) _
  have hsz : w4.heap.size ≤ (w4.setCell ⟨g3, 79, none⟩ v4).heap.size := ((Chg.refl (fun _ => True) w4).setCell (.inl trivial) _).size
  refine ⟨Blk.far c1 h.ne1 _, Blk.far c2 h.ne2 _, h3, own_st hown h.lt3.2, own_st (own_by h.s hc hg h.ts) h.lt3.2, own_st (own_by h.p hc hg (fun b hb => own_type_ne h.t h.p (by decide) hb)) h.lt3.2, own_st (own_by h.y hc hg (fun b hb => own_type_ne h.t h.y (by decide) hb)) h.lt3.2, ?_, hcc, h.lt1, h.lt2, h.lt3, h.ne1, h.ne2, h.lb.1, by have := h.lb; have := cc.size; omega⟩
  exact fun b hb hb' => by
    rcases hat with e | e
    · exact h.ts b (e ▸ hb) hb'
    · have h1 := (h.s.lt b hb').2
      have h2 := hc.size
      rw [hb] at e; injection e with e; omega
theorem Ln.addU (h : Ln w0 base g1 g2 g3 m L0 vt vs vp vy T U P Y L w) (hd : Dg m) {wa w4 : World} {v4 : Value} {Z : List (List UInt8)} (hc : Chg (fun _ => False) w wa)
    (hown : w4.ownsRow base 27 32 v4 Z.length (Z.flatMap fun x => bys x)) (hg : wa.grownBy w4 vs.ownBlock) (hat : v4.ownBlock = vs.ownBlock ∨ v4.ownBlock = some wa.heap.size) :
    Ln w0 base g1 g2 g3 m L0 vt v4 vp vy T Z P Y { L with s := v4 } (w4.setCell ⟨g3, 80, none⟩ v4) := by
  obtain ⟨c1, c2, c3, cc⟩ := h.blks hc hg (fun k hk => (h.s.lt k hk).1)
  have h3 : IsM (w4.setCell ⟨g3, 80, none⟩ v4) g3 m { L with s := v4 } := by
    have := Blk.set_ c3 80 v4
    rw [set_s _ _ hd] at this
    exact this
  have hcc : Chg (fun _ => False) w0 (w4.setCell ⟨g3, 80, none⟩ v4) := (h.chg.andThen cc (fun k hk e => by have := (h.s.lt k e).1; have := h.lb; omega)).setCell (.inr h.lt3.1) _
  have hsz : w4.heap.size ≤ (w4.setCell ⟨g3, 80, none⟩ v4).heap.size := ((Chg.refl (fun _ => True) w4).setCell (.inl trivial) _).size
  refine ⟨Blk.far c1 h.ne1 _, Blk.far c2 h.ne2 _, h3, own_st (own_by h.t hc hg (fun b hb hb' => h.ts b hb' hb)) h.lt3.2, own_st hown h.lt3.2, own_st (own_by h.p hc hg (fun b hb => own_type_ne h.s h.p (by decide) hb)) h.lt3.2, own_st (own_by h.y hc hg (fun b hb => own_type_ne h.s h.y (by decide) hb)) h.lt3.2, ?_, hcc, h.lt1, h.lt2, h.lt3, h.ne1, h.ne2, h.lb.1, by have := h.lb; have := cc.size; omega⟩
  exact fun b hb hb' => by
    rcases hat with e | e
    · exact h.ts b hb (e ▸ hb')
    · have h1 := (h.t.lt b hb).2
      have h2 := hc.size
      rw [hb'] at e; injection e with e; omega
theorem Ln.addP (h : Ln w0 base g1 g2 g3 m L0 vt vs vp vy T U P Y L w) (hd : Dg m) {wa w4 : World} {v4 : Value} {Z : List (List UInt8 × List UInt8)} (hc : Chg (fun _ => False) w wa)
    (hown : w4.ownsRow base 75 2 v4 Z.length (Z.flatMap fun x => [S x.1, S x.2])) (hg : wa.grownBy w4 vp.ownBlock) (hat : v4.ownBlock = vp.ownBlock ∨ v4.ownBlock = some wa.heap.size) :
    Ln w0 base g1 g2 g3 m L0 vt vs v4 vy T U Z Y { L with p := v4 } (w4.setCell ⟨g3, 81, none⟩ v4) := by
  obtain ⟨c1, c2, c3, cc⟩ := h.blks hc hg (fun k hk => (h.p.lt k hk).1)
  have h3 : IsM (w4.setCell ⟨g3, 81, none⟩ v4) g3 m { L with p := v4 } := by
    have := Blk.set_ c3 81 v4
    rw [set_p _ _ hd] at this
    exact this
  have hcc : Chg (fun _ => False) w0 (w4.setCell ⟨g3, 81, none⟩ v4) := (h.chg.andThen cc (fun k hk e => by have := (h.p.lt k e).1; have := h.lb; omega)).setCell (.inr h.lt3.1) _
  have hsz : w4.heap.size ≤ (w4.setCell ⟨g3, 81, none⟩ v4).heap.size := ((Chg.refl (fun _ => True) w4).setCell (.inl trivial) _).size
  refine ⟨Blk.far c1 h.ne1 _, Blk.far c2 h.ne2 _, h3, own_st (own_by h.t hc hg (fun b hb => own_type_ne h.p h.t (by decide) hb)) h.lt3.2, own_st (own_by h.s hc hg (fun b hb => own_type_ne h.p h.s (by decide) hb)) h.lt3.2, own_st hown h.lt3.2, own_st (own_by h.y hc hg (fun b hb => own_type_ne h.p h.y (by decide) hb)) h.lt3.2, ?_, hcc, h.lt1, h.lt2, h.lt3, h.ne1, h.ne2, h.lb.1, by have := h.lb; have := cc.size; omega⟩
  exact h.ts
theorem Ln.addY (h : Ln w0 base g1 g2 g3 m L0 vt vs vp vy T U P Y L w) (hd : Dg m) {wa w4 : World} {v4 : Value} {Z : List Int} (hc : Chg (fun _ => False) w wa)
    (hown : w4.ownsRow base 3 1 v4 Z.length (Z.flatMap fun x => [.int .i64 x])) (hg : wa.grownBy w4 vy.ownBlock) (hat : v4.ownBlock = vy.ownBlock ∨ v4.ownBlock = some wa.heap.size) :
    Ln w0 base g1 g2 g3 m L0 vt vs vp v4 T U P Z { L with y := v4 } (w4.setCell ⟨g3, 82, none⟩ v4) := by
  obtain ⟨c1, c2, c3, cc⟩ := h.blks hc hg (fun k hk => (h.y.lt k hk).1)
  have h3 : IsM (w4.setCell ⟨g3, 82, none⟩ v4) g3 m { L with y := v4 } := by
    have := Blk.set_ c3 82 v4
    rw [set_y _ _ hd] at this
    exact this
  have hcc : Chg (fun _ => False) w0 (w4.setCell ⟨g3, 82, none⟩ v4) := (h.chg.andThen cc (fun k hk e => by have := (h.y.lt k e).1; have := h.lb; omega)).setCell (.inr h.lt3.1) _
  have hsz : w4.heap.size ≤ (w4.setCell ⟨g3, 82, none⟩ v4).heap.size := ((Chg.refl (fun _ => True) w4).setCell (.inl trivial) _).size
  refine ⟨Blk.far c1 h.ne1 _, Blk.far c2 h.ne2 _, h3, own_st (own_by h.t hc hg (fun b hb => own_type_ne h.y h.t (by decide) hb)) h.lt3.2, own_st (own_by h.s hc hg (fun b hb => own_type_ne h.y h.s (by decide) hb)) h.lt3.2, own_st (own_by h.p hc hg (fun b hb => own_type_ne h.y h.p (by decide) hb)) h.lt3.2, own_st hown h.lt3.2, ?_, hcc, h.lt1, h.lt2, h.lt3, h.ne1, h.ne2, h.lb.1, by have := h.lb; have := cc.size; omega⟩
  exact h.ts
end
end Go.Proofs.YthkfcfkkamffpaaGreat
namespace Go.Proofs.YthkfcfkkamffpaaGreat
open Go.RowKit
set_option linter.unusedVariables false
set_option linter.unusedSimpArgs false
open Wm (M)
/-- a row of one's own with 70 marks behind its first n -/
def R70 (w : World) (base : Nat) (e : TypeId) (size : Nat) (v : Value) (n : Nat) (xs : List Value) : Prop :=
  ∃ g c, v = .slice (some ⟨g, 0, none⟩) n c ∧ w.ownsRow base e size (.slice (some ⟨g, 0, none⟩) (n + 70) c) (n + 70) xs
structure LentL (w : World) (base : Nat) (m : M) (L : Ls) : Prop where
  t : R70 w base 27 32 L.t m.trail.length ((m.trail ++ marksD 1 70).flatMap fun x => bys x)
  s : R70 w base 27 32 L.s m.since.length ((m.since ++ marksD 2 70).flatMap fun x => bys x)
  p : R70 w base 75 2 L.p m.pairs.length ((m.pairs ++ marksP 70).flatMap fun x => [S x.1, S x.2])
  y : R70 w base 3 1 L.y m.way.length ((m.way ++ marksY 70).flatMap fun x => [.int .i64 x])
def LentE (m : M) (w w' : World) (e : Ending) : Prop := ∃ L, e = .returned (.agg (mcells m L)) ∧ LentL w' w.heap.size m L ∧ Chg (fun _ => False) w w'
theorem R70.chg {Q : Nat → Prop} {w w' : World} {base size n : Nat} {e : TypeId} {v : Value} {xs : List Value} (h : R70 w base e size v n xs) (hc : Chg Q w w') (hq : ∀ k, base ≤ k → ¬ Q k) : R70 w' base e size v n xs := by
  obtain ⟨g, c, h1, h2⟩ := h
  exact ⟨g, c, h1, own_chg h2 hc (fun k hk => hq k (h2.lt k hk).1)⟩
theorem R70.low {w : World} {base b size n : Nat} {e : TypeId} {v : Value} {xs : List Value} (h : R70 w base e size v n xs) (hb : b ≤ base) : R70 w b e size v n xs := by
  obtain ⟨g, c, h1, h2⟩ := h
  exact ⟨g, c, h1, own_low h2 hb⟩
theorem LentL.chg {Q : Nat → Prop} {w w' : World} {base : Nat} {m : M} {L : Ls} (h : LentL w base m L) (hc : Chg Q w w') (hq : ∀ k, base ≤ k → ¬ Q k) : LentL w' base m L := ⟨h.t.chg hc hq, h.s.chg hc hq, h.p.chg hc hq, h.y.chg hc hq⟩
theorem LentL.low {w : World} {base b : Nat} {m : M} {L : Ls} (h : LentL w base m L) (hb : b ≤ base) : LentL w b m L := ⟨h.t.low hb, h.s.low hb, h.p.low hb, h.y.low hb⟩
theorem R70.lr {α : Type} {w : World} {base size : Nat} {e : TypeId} {v : Value} {l k : List α} {f : α → List Value} (hf : ∀ x ∈ l, (f x).length = size) (h : R70 w base e size v l.length ((l ++ k).flatMap f)) : LR w size v l.length (l.flatMap f) := by
  obtain ⟨g, c, h1, h2⟩ := h
  have hl : ∀ l : List α, (∀ x ∈ l, (f x).length = size) → (l.flatMap f).length = l.length * size := by
    intro l
    induction l with
    | nil => intro _; simp
    | cons x l ih => intro h; rw [List.flatMap_cons, List.length_append, h x (by simp), ih (fun y hy => h y (by simp [hy])), List.length_cons, Nat.succ_mul]; omega
  refine ⟨_, c, h1, hl l hf, fun hn => ⟨g, 0, rfl, fun j u hu => ?_⟩⟩
  have h3 := h2.cells (g := g) rfl j u (by rw [List.flatMap_append, List.getElem?_append_left (List.getElem?_eq_some_iff.1 hu).1]; exact hu)
  have hadd : (⟨g, 0, none⟩ : Addr).add j = ⟨g, 0 + j, none⟩ := by unfold Addr.add; split <;> simp_all
  rwa [hadd] at h3
theorem LentL.isl {w : World} {base : Nat} {m : M} {L : Ls} (h : LentL w base m L) (hm : Nm m) : IsL w m L :=
  ⟨R70.lr (fun x hx => by rw [bys_length]; exact hm.trail x hx) h.t, R70.lr (fun x hx => by rw [bys_length]; exact hm.since x hx) h.s, R70.lr (fun x hx => rfl) h.p, R70.lr (fun x hx => rfl) h.y⟩
theorem own_cap {w : World} {base size n c : Nat} {e : TypeId} {A : Option Addr} {xs : List Value} (h : w.ownsRow base e size (.slice A n c) n xs) (hn : 0 < n) : ∃ g, A = some ⟨g, 0, none⟩ ∧ n ≤ c ∧ c ≤ maxLen := by
  rcases h.2 with ⟨-, h0⟩ | ⟨g, cap, cur, h1, -, -, h2, h3, -⟩
  · omega
  · injection h1 with a b c
    subst a c
    exact ⟨g, rfl, h2, h3⟩
attribute [local go_sem ↓] ld_msg st_msg ld_dig st_dig bs_name
set_option maxHeartbeats 16000000 in
set_option maxRecDepth 100000 in
theorem lent_calls (m : M) (L0 : Ls) (w : World) (hm : Nm m) (hl : IsL w m L0) :
    Calls Tryz.prog 16 #[.agg (mcells m L0)] w fun e w' => LentE m w w' e := by
  have b1 : Blk ((w.alloc (.cells (mcells m L0) 36)).alloc (.cells Tryz.zeroCells36 36)) w.heap.size 36 (mcells m L0) := (Blk.new w 36 (mcells m L0)).alloc _
  have b2 : Blk ((w.alloc (.cells (mcells m L0) 36)).alloc (.cells Tryz.zeroCells36 36)) (w.heap.size + 1) 36 Tryz.zeroCells36 := by
    have := Blk.new (w.alloc (.cells (mcells m L0) 36)) 36 Tryz.zeroCells36
    simpa using this
  have ch : Chg (fun _ => False) w ((w.alloc (.cells (mcells m L0) 36)).alloc (.cells Tryz.zeroCells36 36)) := ((Chg.refl _ w).alloc _).alloc _
  have hz : ((w.alloc (.cells (mcells m L0) 36)).alloc (.cells Tryz.zeroCells36 36)).heap.size = w.heap.size + 2 := by simp
  have B1 := Lib.hid b1
  have B2 := Lib.hid b2
  have Ch := Lib.hid ch
  have Hz := Lib.hid hz
  have Hm := Lib.hid hm
  have Hl := Lib.hid hl
  have nt := hm.nt
  have ns := hm.ns
  have np := hm.np
  have ny := hm.ny
  clear b1 b2 ch hz hm hl
  go_enter Tryz.func16, Tryz.ntmps16
  go_upto_region 1 with fail
  generalize hWW : ((w.alloc (.cells (mcells m L0) 36)).alloc (.cells Tryz.zeroCells36 36)) = W at *
  clear hWW
  have hld := ldM Hm.out.hd B1.out
  have hst := stM (Blk.new W 36 Tryz.zeroCells36) (by rw [zero_msg]; exact mc_len _ _ (only_dg 0 0)) Hm.out.hd Hl.out.slc
  have hcx : Chg (fun _ => False) W ((W.alloc (.cells Tryz.zeroCells36 36)).setRow W.heap.size (mcells m L0)) := Chg.setRow ((Chg.refl _ W).alloc _) (.inr (Nat.le_refl _)) _
  have b3 : IsM ((W.alloc (.cells Tryz.zeroCells36 36)).setRow W.heap.size (mcells m L0)) W.heap.size m L0 := Blk.setRow (Blk.new W 36 Tryz.zeroCells36) _
  have hs3 : W.heap.size + 1 ≤ ((W.alloc (.cells Tryz.zeroCells36 36)).setRow W.heap.size (mcells m L0)).heap.size := b3.lt
  have Hs3 := Lib.hid hs3
  have B3 := Lib.hid b3
  have C3 := Lib.hid hcx
  clear hcx b3 hs3
  go_upto_region 2 with fail
  clear hld hst
  generalize hWW : ((W.alloc (.cells Tryz.zeroCells36 36)).setRow W.heap.size (mcells m L0)) = W3 at *
  clear hWW
  have hlw := Hl.out
  obtain ⟨A0, c0, x0, r0⟩ := hlw.t
  obtain ⟨A1, c1, x1, r1⟩ := hlw.s
  obtain ⟨A2, c2, x2, r2⟩ := hlw.p
  obtain ⟨A3, c3, x3, r3⟩ := hlw.y
  have HL0 : Hid (Ln w (W.heap.size + 1) w.heap.size (w.heap.size + 1) W.heap.size m L0 (.slice none 0 0) (.slice none 0 0) (.slice none 0 0) (.slice none 0 0) [] [] [] [] L0 W3) := Lib.hid ⟨B1.out.chg C3.out (fun h => h), B2.out.chg C3.out (fun h => h), B3.out, World.ownsRow_nil _ _ _ _, World.ownsRow_nil _ _ _ _, World.ownsRow_nil _ _ _ _, World.ownsRow_nil _ _ _ _, (fun b hb => by cases hb), Ch.out.trans C3.out, by have := Hz.out; omega, by have := Hz.out; omega, ⟨by have := Hz.out; omega, by omega⟩, by have := Hz.out; omega, by have := Hz.out; omega, ⟨by have := Hz.out; omega, Hs3.out⟩⟩
  have R0 := Lib.hid r0
  have X0 := Lib.hid x0
  have R1 := Lib.hid r1
  have X1 := Lib.hid x1
  have R2 := Lib.hid r2
  have X2 := Lib.hid x2
  have R3 := Lib.hid r3
  have X3 := Lib.hid x3
  clear hlw r0 r1 r2 r3 x0 x1 x2 x3 B1 B2 B3 Ch C3 Hl
  obtain ⟨g3, hg3⟩ : ∃ g3, g3 = W.heap.size := ⟨_, rfl⟩
  rw [← hg3] at HL0 ⊢
  have Hg3 := Lib.hid (show w.heap.size ≤ g3 by have := Hz.out; omega)
  clear hg3
  have ut := (HL0.out.b1.mf Hm.out.hd).t.trans (congrArg some X0.out)
  have ha := Lib.hid (fun (ops : Array Oper) (rest : List Oper) (o : Oper) (a : Act) (Q : Exit → Act → World → Prop) (s x : Operand) h1 h2 h3 h4 => app_dig (ops := ops) (rest := rest) (o := o) (a := a) (Q := Q) (c := c0) (Z := m.trail) HL0.out.t ((R0.out.chg HL0.out.chg (fun _ _ _ _ h => h)).reads (by omega)) rfl (by simp; omega) HL0.out.lb.2 s x h1 h2 h3 h4)
  go_upto_region 3 with (at_builtin; refine ha.out _ _ _ _ _ (.const (.slice none 0 0)) (.tmp 7) rfl rfl rfl rfl ?_; intro v4 w4 hown hgr hat; obtain ⟨ao0, cp0, rfl⟩ := own_form hown; have hb := (HL0.out.blks (Chg.refl _ _) hgr (fun k hk => by cases hk)).2.2.1; have f1 := (hb.mf Hm.out.hd).t; have f2 := Blk.frozen hb 79; clear hb)
  have HL1 := Lib.hid (HL0.out.addT Hm.out.hd (Chg.refl _ _) hown hgr hat)
  clear hown hgr hat ut f1 f2 ha HL0
  generalize (w4.setCell ⟨g3, 79, none⟩ (.slice ao0 m.trail.length cp0)) = W4 at *
  have ut := (HL1.out.b1.mf Hm.out.hd).s.trans (congrArg some X1.out)
  have ha := Lib.hid (fun (ops : Array Oper) (rest : List Oper) (o : Oper) (a : Act) (Q : Exit → Act → World → Prop) (s x : Operand) h1 h2 h3 h4 => app_dig (ops := ops) (rest := rest) (o := o) (a := a) (Q := Q) (c := c1) (Z := m.since) HL1.out.s ((R1.out.chg HL1.out.chg (fun _ _ _ _ h => h)).reads (by omega)) rfl (by simp; omega) HL1.out.lb.2 s x h1 h2 h3 h4)
  go_upto_region 4 with (at_builtin; refine ha.out _ _ _ _ _ (.const (.slice none 0 0)) (.tmp 11) rfl rfl rfl rfl ?_; intro v4 w4 hown hgr hat; obtain ⟨ao1, cp1, rfl⟩ := own_form hown; have hb := (HL1.out.blks (Chg.refl _ _) hgr (fun k hk => by cases hk)).2.2.1; have f1 := (hb.mf Hm.out.hd).s; have f2 := Blk.frozen hb 80; clear hb)
  have HL2 := Lib.hid (HL1.out.addU Hm.out.hd (Chg.refl _ _) hown hgr hat)
  clear hown hgr hat ut f1 f2 ha HL1
  generalize (w4.setCell ⟨g3, 80, none⟩ (.slice ao1 m.since.length cp1)) = W5 at *
  have ut := (HL2.out.b1.mf Hm.out.hd).p.trans (congrArg some X2.out)
  have ha := Lib.hid (fun (ops : Array Oper) (rest : List Oper) (o : Oper) (a : Act) (Q : Exit → Act → World → Prop) (s x : Operand) h1 h2 h3 h4 => app_pair (ops := ops) (rest := rest) (o := o) (a := a) (Q := Q) (c := c2) (Z := m.pairs) HL2.out.p ((R2.out.chg HL2.out.chg (fun _ _ _ _ h => h)).reads (by omega)) rfl (by simp; omega) HL2.out.lb.2 s x h1 h2 h3 h4)
  go_upto_region 5 with (at_builtin; refine ha.out _ _ _ _ _ (.const (.slice none 0 0)) (.tmp 15) rfl rfl rfl rfl ?_; intro v4 w4 hown hgr hat; obtain ⟨ao2, cp2, rfl⟩ := own_form hown; have hb := (HL2.out.blks (Chg.refl _ _) hgr (fun k hk => by cases hk)).2.2.1; have f1 := (hb.mf Hm.out.hd).p; have f2 := Blk.frozen hb 81; clear hb)
  have HL3 := Lib.hid (HL2.out.addP Hm.out.hd (Chg.refl _ _) hown hgr hat)
  clear hown hgr hat ut f1 f2 ha HL2
  generalize (w4.setCell ⟨g3, 81, none⟩ (.slice ao2 m.pairs.length cp2)) = W6 at *
  have ut := (HL3.out.b1.mf Hm.out.hd).y.trans (congrArg some X3.out)
  have ha := Lib.hid (fun (ops : Array Oper) (rest : List Oper) (o : Oper) (a : Act) (Q : Exit → Act → World → Prop) (s x : Operand) h1 h2 h3 h4 => app_int (ops := ops) (rest := rest) (o := o) (a := a) (Q := Q) (c := c3) (Z := m.way) HL3.out.y ((R3.out.chg HL3.out.chg (fun _ _ _ _ h => h)).reads (by omega)) rfl (by simp; omega) HL3.out.lb.2 s x h1 h2 h3 h4)
  go_upto_region 6 with (at_builtin; refine ha.out _ _ _ _ _ (.const (.slice none 0 0)) (.tmp 19) rfl rfl rfl rfl ?_; intro v4 w4 hown hgr hat; obtain ⟨ao3, cp3, rfl⟩ := own_form hown; have hb := (HL3.out.blks (Chg.refl _ _) hgr (fun k hk => by cases hk)).2.2.1; have f1 := (hb.mf Hm.out.hd).y; have f2 := Blk.frozen hb 82; clear hb)
  have HL4 := Lib.hid (HL3.out.addY Hm.out.hd (Chg.refl _ _) hown hgr hat)
  clear hown hgr hat ut f1 f2 ha HL3
  generalize (w4.setCell ⟨g3, 82, none⟩ (.slice ao3 m.way.length cp3)) = W7 at *
  go_wp2_with fail
  go_loopw [4] (fun iv wr => ∃ (i : Nat) (vt vs vp vy : Value) (T U : List (List UInt8)) (P : List (List UInt8 × List UInt8)) (Y : List Int), i ≤ 70 ∧ iv = .int .i64 i ∧ T = m.trail ++ marksD 1 i ∧ U = m.since ++ marksD 2 i ∧ P = m.pairs ++ marksP i ∧ Y = m.way ++ marksY i ∧ Ln w (g3 + 1) w.heap.size (w.heap.size + 1) g3 m L0 vt vs vp vy T U P Y ⟨vt, vs, vp, vy⟩ wr) (fun iv _ => 70 - (intOf iv).toNat)
  case atStart => exact ⟨0, _, _, _, _, m.trail, m.since, m.pairs, m.way, by omega, rfl, by simp [marksD], by simp [marksD], by simp [marksP], by simp [marksY], HL4.out⟩
  case round =>
    obtain ⟨i, vt, vs, vp, vy, T, U, P, Y, hi, rfl, hT, hU, hP, hY, hln⟩ := hrel
    have HLa := Lib.hid hln
    have HT := Lib.hid hT
    have HU := Lib.hid hU
    have HP := Lib.hid hP
    have HY := Lib.hid hY
    clear hln hT hU hP hY HL4
    by_cases hi7 : i < 70
    case pos =>
      have hTl : T.length ≤ 1048646 := by rw [HT.out, List.length_append, marksD_len]; omega
      have hUl : U.length ≤ 1048646 := by rw [HU.out, List.length_append, marksD_len]; omega
      have hPl : P.length ≤ 1048646 := by rw [HP.out, List.length_append, marksP_len]; omega
      have hYl : Y.length ≤ 1048646 := by rw [HY.out, List.length_append, marksY_len]; omega
      have hcv8 : IntKind.u8.wrap (i : Int) = (i : Int) := by rw [IntKind.wrap_u8]; omega
      have hiZ : (i : Int) < 70 := by omega
      have ut : wr.cell? ⟨g3, 79, none⟩ = some vt := (HLa.out.b3.mf Hm.out.hd).t
      obtain ⟨Z0, hZ0⟩ : ∃ Z, Z = T ++ [markD 1 i] := ⟨_, rfl⟩
      have hbs := bs_mark 1 1 i rfl (by omega)
      have ha := Lib.hid (fun (ops : Array Oper) (rest : List Oper) (o : Oper) (a : Act) (Q : Exit → Act → World → Prop) (s x : Operand) h1 h2 h3 h4 => app_dig (ops := ops) (rest := rest) (o := o) (a := a) (Q := Q) (c := 1) (Z := Z0) (HLa.out.t.alloc (.cells (bys (markD 1 i)).toArray 27)) (Reads.dig wr (markD 1 i) rfl) hZ0 (by simp; omega) (Nat.le_trans HLa.out.lb.2 (by simp; try omega)) s x h1 h2 h3 h4)
      have HZ0 := Lib.hid hZ0
      clear hZ0
      go_upto_region 10 with (at_builtin; refine ha.out _ _ _ _ _ (.tmp 27) (.tmp 31) rfl rfl rfl rfl ?_; intro v4 w4 hown hgr hat; obtain ⟨ao0, cp0, rfl⟩ := own_form hown; have hb := (HLa.out.blks ((Chg.refl _ wr).alloc _) hgr (fun k hk => (HLa.out.t.lt k hk).1)).2.2.1; have f1 := (hb.mf Hm.out.hd).t; have f2 := Blk.frozen hb 79; clear hb)
      have HLb := Lib.hid (HLa.out.addT Hm.out.hd ((Chg.refl _ wr).alloc _) hown hgr hat)
      clear hown hgr hat ut f1 f2 ha hbs
      generalize (w4.setCell ⟨g3, 79, none⟩ (.slice ao0 Z0.length cp0)) = wr0 at *
      have ut : wr0.cell? ⟨g3, 80, none⟩ = some vs := (HLb.out.b3.mf Hm.out.hd).s
      obtain ⟨Z1, hZ1⟩ : ∃ Z, Z = U ++ [markD 2 i] := ⟨_, rfl⟩
      have hbs := bs_mark 2 2 i rfl (by omega)
      have ha := Lib.hid (fun (ops : Array Oper) (rest : List Oper) (o : Oper) (a : Act) (Q : Exit → Act → World → Prop) (s x : Operand) h1 h2 h3 h4 => app_dig (ops := ops) (rest := rest) (o := o) (a := a) (Q := Q) (c := 1) (Z := Z1) (HLb.out.s.alloc (.cells (bys (markD 2 i)).toArray 27)) (Reads.dig wr0 (markD 2 i) rfl) hZ1 (by simp; omega) (Nat.le_trans HLb.out.lb.2 (by simp; try omega)) s x h1 h2 h3 h4)
      have HZ1 := Lib.hid hZ1
      clear hZ1
      go_upto_region 11 with (at_builtin; refine ha.out _ _ _ _ _ (.tmp 35) (.tmp 39) rfl rfl rfl rfl ?_; intro v4 w4 hown hgr hat; obtain ⟨ao1, cp1, rfl⟩ := own_form hown; have hb := (HLb.out.blks ((Chg.refl _ wr0).alloc _) hgr (fun k hk => (HLb.out.s.lt k hk).1)).2.2.1; have f1 := (hb.mf Hm.out.hd).s; have f2 := Blk.frozen hb 80; clear hb)
      have HLc := Lib.hid (HLb.out.addU Hm.out.hd ((Chg.refl _ wr0).alloc _) hown hgr hat)
      clear hown hgr hat ut f1 f2 ha hbs
      generalize (w4.setCell ⟨g3, 80, none⟩ (.slice ao1 Z1.length cp1)) = wr1 at *
      have ut : wr1.cell? ⟨g3, 81, none⟩ = some vp := (HLc.out.b3.mf Hm.out.hd).p
      obtain ⟨Z2, hZ2⟩ : ∃ Z, Z = P ++ [(([109, 97, 114, 107] : List UInt8), [UInt8.ofNat i])] := ⟨_, rfl⟩
      have hcv := fun w => conv_new w (i : Int) (UInt8.ofNat i) (by simp; omega)
      have ha := Lib.hid (fun (ops : Array Oper) (rest : List Oper) (o : Oper) (a : Act) (Q : Exit → Act → World → Prop) (s x : Operand) h1 h2 h3 h4 => app_pair (ops := ops) (rest := rest) (o := o) (a := a) (Q := Q) (c := 1) (Z := Z2) ((HLc.out.p.alloc (.cells #[.int .u8 i] 5)).alloc (.cells #[S [109, 97, 114, 107], S [UInt8.ofNat i]] 75)) (Reads.pair1 wr1 (.cells #[.int .u8 i] 5) (([109, 97, 114, 107] : List UInt8), [UInt8.ofNat i])) hZ2 (by simp; omega) (Nat.le_trans HLc.out.lb.2 (by simp; try omega)) s x h1 h2 h3 h4)
      have HZ2 := Lib.hid hZ2
      clear hZ2
      go_upto_region 12 with (at_builtin; refine ha.out _ _ _ _ _ (.tmp 43) (.tmp 49) rfl rfl rfl rfl ?_; intro v4 w4 hown hgr hat; obtain ⟨ao2, cp2, rfl⟩ := own_form hown; have hb := (HLc.out.blks (((Chg.refl _ wr1).alloc _).alloc _) hgr (fun k hk => (HLc.out.p.lt k hk).1)).2.2.1; have f1 := (hb.mf Hm.out.hd).p; have f2 := Blk.frozen hb 81; clear hb)
      have HLd := Lib.hid (HLc.out.addP Hm.out.hd (((Chg.refl _ wr1).alloc _).alloc _) hown hgr hat)
      clear hown hgr hat ut f1 f2 ha hcv
      generalize (w4.setCell ⟨g3, 81, none⟩ (.slice ao2 Z2.length cp2)) = wr2 at *
      have ut : wr2.cell? ⟨g3, 82, none⟩ = some vy := (HLd.out.b3.mf Hm.out.hd).y
      obtain ⟨Z3, hZ3⟩ : ∃ Z, Z = Y ++ [(-100 - (i : Int))] := ⟨_, rfl⟩
      have ha := Lib.hid (fun (ops : Array Oper) (rest : List Oper) (o : Oper) (a : Act) (Q : Exit → Act → World → Prop) (s x : Operand) h1 h2 h3 h4 => app_int (ops := ops) (rest := rest) (o := o) (a := a) (Q := Q) (c := 1) (Z := Z3) (HLd.out.y.alloc (.cells #[.int .i64 (-100 - (i : Int))] 3)) (Reads.int wr2 (-100 - (i : Int))) hZ3 (by simp; omega) (Nat.le_trans HLd.out.lb.2 (by simp; try omega)) s x h1 h2 h3 h4)
      have HZ3 := Lib.hid hZ3
      clear hZ3
      go_wp2_with (at_builtin; refine ha.out _ _ _ _ _ (.tmp 53) (.tmp 56) rfl rfl rfl rfl ?_; intro v4 w4 hown hgr hat; obtain ⟨ao3, cp3, rfl⟩ := own_form hown; have hb := (HLd.out.blks ((Chg.refl _ wr2).alloc _) hgr (fun k hk => (HLd.out.y.lt k hk).1)).2.2.1; have f1 := (hb.mf Hm.out.hd).y; have f2 := Blk.frozen hb 82; clear hb)
      have HLe := Lib.hid (HLd.out.addY Hm.out.hd ((Chg.refl _ wr2).alloc _) hown hgr hat)
      go_roundw
      case rel =>
        exact ⟨i + 1, _, _, _, _, Z0, Z1, Z2, Z3, by omega, by go_num, by rw [HZ0.out, HT.out, marksD_succ, List.append_assoc], by rw [HZ1.out, HU.out, marksD_succ, List.append_assoc], by rw [HZ2.out, HP.out, marksP_succ, List.append_assoc]; rfl, by rw [HZ3.out, HY.out, marksY_succ, List.append_assoc]; rfl, HLe.out⟩
      case measure => simp [intOf]; omega
    obtain rfl : i = 70 := by omega
    have hl0 : T.length = m.trail.length + 70 := by rw [HT.out, List.length_append, marksD_len]
    obtain ⟨ao0, cp0, hv0⟩ := own_form HLa.out.t
    subst hv0
    obtain ⟨gg0, hgg0, hcp0, hcm0⟩ := own_cap HLa.out.t (by omega)
    subst hgg0
    have hl1 : U.length = m.since.length + 70 := by rw [HU.out, List.length_append, marksD_len]
    obtain ⟨ao1, cp1, hv1⟩ := own_form HLa.out.s
    subst hv1
    obtain ⟨gg1, hgg1, hcp1, hcm1⟩ := own_cap HLa.out.s (by omega)
    subst hgg1
    have hl2 : P.length = m.pairs.length + 70 := by rw [HP.out, List.length_append, marksP_len]
    obtain ⟨ao2, cp2, hv2⟩ := own_form HLa.out.p
    subst hv2
    obtain ⟨gg2, hgg2, hcp2, hcm2⟩ := own_cap HLa.out.p (by omega)
    subst hgg2
    have hl3 : Y.length = m.way.length + 70 := by rw [HY.out, List.length_append, marksY_len]
    obtain ⟨ao3, cp3, hv3⟩ := own_form HLa.out.y
    subst hv3
    obtain ⟨gg3, hgg3, hcp3, hcm3⟩ := own_cap HLa.out.y (by omega)
    subst hgg3
    have u0 : wr.cell? ⟨g3, 79, none⟩ = some (.slice (some ⟨gg0, 0, none⟩) T.length cp0) := (HLa.out.b3.mf Hm.out.hd).t
    have f0 := Blk.frozen HLa.out.b3 79
    have v0 := (HLa.out.b1.mf Hm.out.hd).t.trans (congrArg some X0.out)
    have hk0 : m.trail.length ≤ cp0 := by omega
    have hk0' : (m.trail.length : Int) ≤ cp0 := by omega
    unfold maxLen at hcm0
    have Hlen0 := Lib.hid hl0
    clear hl0
    have u1 : wr.cell? ⟨g3, 80, none⟩ = some (.slice (some ⟨gg1, 0, none⟩) U.length cp1) := (HLa.out.b3.mf Hm.out.hd).s
    have f1 := Blk.frozen HLa.out.b3 80
    have v1 := (HLa.out.b1.mf Hm.out.hd).s.trans (congrArg some X1.out)
    have hk1 : m.since.length ≤ cp1 := by omega
    have hk1' : (m.since.length : Int) ≤ cp1 := by omega
    unfold maxLen at hcm1
    have Hlen1 := Lib.hid hl1
    clear hl1
    have u2 : wr.cell? ⟨g3, 81, none⟩ = some (.slice (some ⟨gg2, 0, none⟩) P.length cp2) := (HLa.out.b3.mf Hm.out.hd).p
    have f2 := Blk.frozen HLa.out.b3 81
    have v2 := (HLa.out.b1.mf Hm.out.hd).p.trans (congrArg some X2.out)
    have hk2 : m.pairs.length ≤ cp2 := by omega
    have hk2' : (m.pairs.length : Int) ≤ cp2 := by omega
    unfold maxLen at hcm2
    have Hlen2 := Lib.hid hl2
    clear hl2
    have u3 : wr.cell? ⟨g3, 82, none⟩ = some (.slice (some ⟨gg3, 0, none⟩) Y.length cp3) := (HLa.out.b3.mf Hm.out.hd).y
    have f3 := Blk.frozen HLa.out.b3 82
    have v3 := (HLa.out.b1.mf Hm.out.hd).y.trans (congrArg some X3.out)
    have hk3 : m.way.length ≤ cp3 := by omega
    have hk3' : (m.way.length : Int) ≤ cp3 := by omega
    unfold maxLen at hcm3
    have Hlen3 := Lib.hid hl3
    clear hl3
    have hne : w.heap.size ≠ g3 := HLa.out.ne1
    have kp : ∀ (w1 : World) (i : Nat) (u : Value), (w1.cell? ⟨w.heap.size, 79, none⟩ = some (.slice A0 m.trail.length c0) ∧ w1.cell? ⟨w.heap.size, 80, none⟩ = some (.slice A1 m.since.length c1) ∧ w1.cell? ⟨w.heap.size, 81, none⟩ = some (.slice A2 m.pairs.length c2) ∧ w1.cell? ⟨w.heap.size, 82, none⟩ = some (.slice A3 m.way.length c3)) → ((w1.setCell ⟨g3, i, none⟩ u).cell? ⟨w.heap.size, 79, none⟩ = some (.slice A0 m.trail.length c0) ∧ (w1.setCell ⟨g3, i, none⟩ u).cell? ⟨w.heap.size, 80, none⟩ = some (.slice A1 m.since.length c1) ∧ (w1.setCell ⟨g3, i, none⟩ u).cell? ⟨w.heap.size, 81, none⟩ = some (.slice A2 m.pairs.length c2) ∧ (w1.setCell ⟨g3, i, none⟩ u).cell? ⟨w.heap.size, 82, none⟩ = some (.slice A3 m.way.length c3)) := fun w1 i u h => ⟨(World.cell?_setCell_other _ _ _ _ (fun e => hne (congrArg Addr.block e).symm)).trans h.1, (World.cell?_setCell_other _ _ _ _ (fun e => hne (congrArg Addr.block e).symm)).trans h.2.1, (World.cell?_setCell_other _ _ _ _ (fun e => hne (congrArg Addr.block e).symm)).trans h.2.2.1, (World.cell?_setCell_other _ _ _ _ (fun e => hne (congrArg Addr.block e).symm)).trans h.2.2.2⟩
    have Kp := Lib.hid kp
    have Vs := Lib.hid (And.intro v0 (And.intro v1 (And.intro v2 v3)))
    clear kp
    go_upto_region 13 with fail
    go_cut [] (fun wx => wx = ((((wr.setCell ⟨g3, 79, none⟩ (.slice (some ⟨gg0, 0, none⟩) m.trail.length cp0)).setCell ⟨g3, 80, none⟩ (.slice (some ⟨gg1, 0, none⟩) m.since.length cp1)).setCell ⟨g3, 81, none⟩ (.slice (some ⟨gg2, 0, none⟩) m.pairs.length cp2)).setCell ⟨g3, 82, none⟩ (.slice (some ⟨gg3, 0, none⟩) m.way.length cp3)).drew)
    case first =>
      have HT : ∀ l, tillT (fun w' => w'.cell? ⟨w.heap.size, 79, none⟩ = some (.slice A0 m.trail.length c0) ∧ w'.cell? ⟨w.heap.size, 80, none⟩ = some (.slice A1 m.since.length c1) ∧ w'.cell? ⟨w.heap.size, 81, none⟩ = some (.slice A2 m.pairs.length c2) ∧ w'.cell? ⟨w.heap.size, 82, none⟩ = some (.slice A3 m.way.length c3)) (fun w' => w'.cell? ⟨g3, 79, none⟩ = some (.slice (some ⟨gg0, 0, none⟩) T.length cp0) ∧ w'.cell? ⟨g3, 80, none⟩ = some (.slice (some ⟨gg1, 0, none⟩) U.length cp1) ∧ w'.cell? ⟨g3, 81, none⟩ = some (.slice (some ⟨gg2, 0, none⟩) P.length cp2) ∧ w'.cell? ⟨g3, 82, none⟩ = some (.slice (some ⟨gg3, 0, none⟩) Y.length cp3)) 25 l wr.drew := fun l => ⟨Vs.out, fun _ => ⟨u0, u1, u2, u3⟩⟩
      refine Till.start (T := tillT (fun w' => w'.cell? ⟨w.heap.size, 79, none⟩ = some (.slice A0 m.trail.length c0) ∧ w'.cell? ⟨w.heap.size, 80, none⟩ = some (.slice A1 m.since.length c1) ∧ w'.cell? ⟨w.heap.size, 81, none⟩ = some (.slice A2 m.pairs.length c2) ∧ w'.cell? ⟨w.heap.size, 82, none⟩ = some (.slice A3 m.way.length c3)) (fun w' => w'.cell? ⟨g3, 79, none⟩ = some (.slice (some ⟨gg0, 0, none⟩) T.length cp0) ∧ w'.cell? ⟨g3, 80, none⟩ = some (.slice (some ⟨gg1, 0, none⟩) U.length cp1) ∧ w'.cell? ⟨g3, 81, none⟩ = some (.slice (some ⟨gg2, 0, none⟩) P.length cp2) ∧ w'.cell? ⟨g3, 82, none⟩ = some (.slice (some ⟨gg3, 0, none⟩) Y.length cp3)) 25) (by kernel_rfl) ?_
      refine Till.take1 (i := 0) (v := (.pointer (some ⟨g3, 79, none⟩))) rfl (by kernel_rfl) (by kernel_rfl) (by kernel_rfl) rfl (fun _ _ _ h => h) (.inl ⟨by rfl, fun w1 hw1 => by (go_simp; try with_reducible rfl)⟩) (HT _) ?_
      refine Till.take0 (i := 1) (v := (.slice (some ⟨gg0, 0, none⟩) T.length cp0)) rfl (by kernel_rfl) (by kernel_rfl) (by kernel_rfl) rfl (by kernel_rfl) (by kernel_rfl) (fun _ _ _ h => h) (.inl ⟨by rfl, fun w1 hw1 => by obtain ⟨a0, a1, a2, a3⟩ := hw1; (go_simp; try with_reducible rfl)⟩) (HT _) ?_
      refine Till.take1 (i := 2) (v := (.pointer (some ⟨w.heap.size, 79, none⟩))) rfl (by kernel_rfl) (by kernel_rfl) (by kernel_rfl) rfl (fun _ _ _ h => h) (.inl ⟨by rfl, fun w1 hw1 => by (go_simp; try with_reducible rfl)⟩) (HT _) ?_
      refine Till.take1 (i := 3) (v := (.slice A0 m.trail.length c0)) rfl (by kernel_rfl) (by kernel_rfl) (by kernel_rfl) rfl (fun _ _ _ h => h) (.inl ⟨by rfl, fun w1 hw1 => by obtain ⟨a0, a1, a2, a3⟩ := hw1; (go_simp; try with_reducible rfl)⟩) (HT _) ?_
      refine Till.take1 (i := 4) (v := (.int .i64 m.trail.length)) rfl (by kernel_rfl) (by kernel_rfl) (by kernel_rfl) rfl (fun _ _ _ h => h) (.inl ⟨by rfl, fun w1 hw1 => by (go_simp; try with_reducible rfl)⟩) (HT _) ?_
      refine Till.take1 (i := 5) (v := (.slice (some ⟨gg0, 0, none⟩) m.trail.length cp0)) rfl (by kernel_rfl) (by kernel_rfl) (by kernel_rfl) rfl (fun _ _ _ h => h) (.inl ⟨by rfl, fun w1 hw1 => by (go_simp; try with_reducible rfl)⟩) (HT _) ?_
      refine Till.take1 (i := 6) (v := (.pointer (some ⟨g3, 80, none⟩))) rfl (by kernel_rfl) (by kernel_rfl) (by kernel_rfl) rfl (fun _ _ _ h => h) (.inl ⟨by rfl, fun w1 hw1 => by (go_simp; try with_reducible rfl)⟩) (HT _) ?_
      refine Till.take0 (i := 7) (v := (.slice (some ⟨gg1, 0, none⟩) U.length cp1)) rfl (by kernel_rfl) (by kernel_rfl) (by kernel_rfl) rfl (by kernel_rfl) (by kernel_rfl) (fun _ _ _ h => h) (.inl ⟨by rfl, fun w1 hw1 => by obtain ⟨a0, a1, a2, a3⟩ := hw1; (go_simp; try with_reducible rfl)⟩) (HT _) ?_
      refine Till.take1 (i := 8) (v := (.pointer (some ⟨w.heap.size, 80, none⟩))) rfl (by kernel_rfl) (by kernel_rfl) (by kernel_rfl) rfl (fun _ _ _ h => h) (.inl ⟨by rfl, fun w1 hw1 => by (go_simp; try with_reducible rfl)⟩) (HT _) ?_
      refine Till.take1 (i := 9) (v := (.slice A1 m.since.length c1)) rfl (by kernel_rfl) (by kernel_rfl) (by kernel_rfl) rfl (fun _ _ _ h => h) (.inl ⟨by rfl, fun w1 hw1 => by obtain ⟨a0, a1, a2, a3⟩ := hw1; (go_simp; try with_reducible rfl)⟩) (HT _) ?_
      refine Till.take1 (i := 10) (v := (.int .i64 m.since.length)) rfl (by kernel_rfl) (by kernel_rfl) (by kernel_rfl) rfl (fun _ _ _ h => h) (.inl ⟨by rfl, fun w1 hw1 => by (go_simp; try with_reducible rfl)⟩) (HT _) ?_
      refine Till.take1 (i := 11) (v := (.slice (some ⟨gg1, 0, none⟩) m.since.length cp1)) rfl (by kernel_rfl) (by kernel_rfl) (by kernel_rfl) rfl (fun _ _ _ h => h) (.inl ⟨by rfl, fun w1 hw1 => by (go_simp; try with_reducible rfl)⟩) (HT _) ?_
      refine Till.take1 (i := 12) (v := (.pointer (some ⟨g3, 81, none⟩))) rfl (by kernel_rfl) (by kernel_rfl) (by kernel_rfl) rfl (fun _ _ _ h => h) (.inl ⟨by rfl, fun w1 hw1 => by (go_simp; try with_reducible rfl)⟩) (HT _) ?_
      refine Till.take0 (i := 13) (v := (.slice (some ⟨gg2, 0, none⟩) P.length cp2)) rfl (by kernel_rfl) (by kernel_rfl) (by kernel_rfl) rfl (by kernel_rfl) (by kernel_rfl) (fun _ _ _ h => h) (.inl ⟨by rfl, fun w1 hw1 => by obtain ⟨a0, a1, a2, a3⟩ := hw1; (go_simp; try with_reducible rfl)⟩) (HT _) ?_
      refine Till.take1 (i := 14) (v := (.pointer (some ⟨w.heap.size, 81, none⟩))) rfl (by kernel_rfl) (by kernel_rfl) (by kernel_rfl) rfl (fun _ _ _ h => h) (.inl ⟨by rfl, fun w1 hw1 => by (go_simp; try with_reducible rfl)⟩) (HT _) ?_
      refine Till.take1 (i := 15) (v := (.slice A2 m.pairs.length c2)) rfl (by kernel_rfl) (by kernel_rfl) (by kernel_rfl) rfl (fun _ _ _ h => h) (.inl ⟨by rfl, fun w1 hw1 => by obtain ⟨a0, a1, a2, a3⟩ := hw1; (go_simp; try with_reducible rfl)⟩) (HT _) ?_
      refine Till.take1 (i := 16) (v := (.int .i64 m.pairs.length)) rfl (by kernel_rfl) (by kernel_rfl) (by kernel_rfl) rfl (fun _ _ _ h => h) (.inl ⟨by rfl, fun w1 hw1 => by (go_simp; try with_reducible rfl)⟩) (HT _) ?_
      refine Till.take1 (i := 17) (v := (.slice (some ⟨gg2, 0, none⟩) m.pairs.length cp2)) rfl (by kernel_rfl) (by kernel_rfl) (by kernel_rfl) rfl (fun _ _ _ h => h) (.inl ⟨by rfl, fun w1 hw1 => by (go_simp; try with_reducible rfl)⟩) (HT _) ?_
      refine Till.take1 (i := 18) (v := (.pointer (some ⟨g3, 82, none⟩))) rfl (by kernel_rfl) (by kernel_rfl) (by kernel_rfl) rfl (fun _ _ _ h => h) (.inl ⟨by rfl, fun w1 hw1 => by (go_simp; try with_reducible rfl)⟩) (HT _) ?_
      refine Till.take0 (i := 19) (v := (.slice (some ⟨gg3, 0, none⟩) Y.length cp3)) rfl (by kernel_rfl) (by kernel_rfl) (by kernel_rfl) rfl (by kernel_rfl) (by kernel_rfl) (fun _ _ _ h => h) (.inl ⟨by rfl, fun w1 hw1 => by obtain ⟨a0, a1, a2, a3⟩ := hw1; (go_simp; try with_reducible rfl)⟩) (HT _) ?_
      refine Till.take1 (i := 20) (v := (.pointer (some ⟨w.heap.size, 82, none⟩))) rfl (by kernel_rfl) (by kernel_rfl) (by kernel_rfl) rfl (fun _ _ _ h => h) (.inl ⟨by rfl, fun w1 hw1 => by (go_simp; try with_reducible rfl)⟩) (HT _) ?_
      refine Till.take1 (i := 21) (v := (.slice A3 m.way.length c3)) rfl (by kernel_rfl) (by kernel_rfl) (by kernel_rfl) rfl (fun _ _ _ h => h) (.inl ⟨by rfl, fun w1 hw1 => by obtain ⟨a0, a1, a2, a3⟩ := hw1; (go_simp; try with_reducible rfl)⟩) (HT _) ?_
      refine Till.take1 (i := 22) (v := (.int .i64 m.way.length)) rfl (by kernel_rfl) (by kernel_rfl) (by kernel_rfl) rfl (fun _ _ _ h => h) (.inl ⟨by rfl, fun w1 hw1 => by (go_simp; try with_reducible rfl)⟩) (HT _) ?_
      refine Till.take1 (i := 23) (v := (.slice (some ⟨gg3, 0, none⟩) m.way.length cp3)) rfl (by kernel_rfl) (by kernel_rfl) (by kernel_rfl) rfl (fun _ _ _ h => h) (.inl ⟨by rfl, fun w1 hw1 => by (go_simp; try with_reducible rfl)⟩) (HT _) ?_
      refine Till.take1 (i := 24) (v := (.pointer (some ⟨g3, 79, none⟩))) rfl (by kernel_rfl) (by kernel_rfl) (by kernel_rfl) rfl (fun _ _ _ h => h) (.inl ⟨by rfl, fun w1 hw1 => by (go_simp; try with_reducible rfl)⟩) (HT _) ?_
      refine Till.one (i := 25) (by kernel_rfl) rfl (by rfl) ?_
      intro K1 hK1
      go_simp
      have s1 := Kp.out wr 79 (.slice (some ⟨gg0, 0, none⟩) m.trail.length cp0) Vs.out
      refine hK1 _ _ ⟨s1, fun h => absurd (show true = false from h) (by decide)⟩ ?_
      clear hK1 K1
      refine Till.take1 (i := 26) (v := (.pointer (some ⟨g3, 80, none⟩))) rfl (by kernel_rfl) (by kernel_rfl) (by kernel_rfl) rfl (fun _ _ _ h => h) (.inl ⟨by rfl, fun w1 hw1 => by (go_simp; try with_reducible rfl)⟩) ⟨s1, fun h => absurd (show true = false from h) (by decide)⟩ ?_
      refine Till.one (i := 27) (by kernel_rfl) rfl (by rfl) ?_
      intro K1 hK1
      go_simp
      have s2 := Kp.out _ 80 (.slice (some ⟨gg1, 0, none⟩) m.since.length cp1) s1
      refine hK1 _ _ ⟨s2, fun h => absurd (show true = false from h) (by decide)⟩ ?_
      clear hK1 K1
      refine Till.take1 (i := 28) (v := (.pointer (some ⟨g3, 81, none⟩))) rfl (by kernel_rfl) (by kernel_rfl) (by kernel_rfl) rfl (fun _ _ _ h => h) (.inl ⟨by rfl, fun w1 hw1 => by (go_simp; try with_reducible rfl)⟩) ⟨s2, fun h => absurd (show true = false from h) (by decide)⟩ ?_
      refine Till.one (i := 29) (by kernel_rfl) rfl (by rfl) ?_
      intro K1 hK1
      go_simp
      have s3 := Kp.out _ 81 (.slice (some ⟨gg2, 0, none⟩) m.pairs.length cp2) s2
      refine hK1 _ _ ⟨s3, fun h => absurd (show true = false from h) (by decide)⟩ ?_
      clear hK1 K1
      refine Till.take1 (i := 30) (v := (.pointer (some ⟨g3, 82, none⟩))) rfl (by kernel_rfl) (by kernel_rfl) (by kernel_rfl) rfl (fun _ _ _ h => h) (.inl ⟨by rfl, fun w1 hw1 => by (go_simp; try with_reducible rfl)⟩) ⟨s3, fun h => absurd (show true = false from h) (by decide)⟩ ?_
      refine Till.one (i := 31) (by kernel_rfl) rfl (by rfl) ?_
      intro K1 hK1
      go_simp
      have s4 := Kp.out _ 82 (.slice (some ⟨gg3, 0, none⟩) m.way.length cp3) s3
      refine hK1 _ _ ⟨s4, fun h => absurd (show true = false from h) (by decide)⟩ ?_
      clear hK1 K1
      refine Till.done (by kernel_rfl) ?_ _
      go_wp2_with fail
      go_meet
      exact rfl
    case rest =>
      obtain rfl := hcut
      have hb3 : IsM (((((wr.setCell ⟨g3, 79, none⟩ (.slice (some ⟨gg0, 0, none⟩) m.trail.length cp0)).setCell ⟨g3, 80, none⟩ (.slice (some ⟨gg1, 0, none⟩) m.since.length cp1)).setCell ⟨g3, 81, none⟩ (.slice (some ⟨gg2, 0, none⟩) m.pairs.length cp2)).setCell ⟨g3, 82, none⟩ (.slice (some ⟨gg3, 0, none⟩) m.way.length cp3)).drew) g3 m ⟨.slice (some ⟨gg0, 0, none⟩) m.trail.length cp0, .slice (some ⟨gg1, 0, none⟩) m.since.length cp1, .slice (some ⟨gg2, 0, none⟩) m.pairs.length cp2, .slice (some ⟨gg3, 0, none⟩) m.way.length cp3⟩ := by
        have h0 := Blk.set_ HLa.out.b3 79 (.slice (some ⟨gg0, 0, none⟩) m.trail.length cp0)
        rw [set_t _ _ Hm.out.hd] at h0
        have h1 := Blk.set_ h0 80 (.slice (some ⟨gg1, 0, none⟩) m.since.length cp1)
        rw [set_s _ _ Hm.out.hd] at h1
        have h2 := Blk.set_ h1 81 (.slice (some ⟨gg2, 0, none⟩) m.pairs.length cp2)
        rw [set_p _ _ Hm.out.hd] at h2
        have h3 := Blk.set_ h2 82 (.slice (some ⟨gg3, 0, none⟩) m.way.length cp3)
        rw [set_y _ _ Hm.out.hd] at h3
        exact Blk.drew h3
      have hcw : Chg (fun k => k = g3) wr (((((wr.setCell ⟨g3, 79, none⟩ (.slice (some ⟨gg0, 0, none⟩) m.trail.length cp0)).setCell ⟨g3, 80, none⟩ (.slice (some ⟨gg1, 0, none⟩) m.since.length cp1)).setCell ⟨g3, 81, none⟩ (.slice (some ⟨gg2, 0, none⟩) m.pairs.length cp2)).setCell ⟨g3, 82, none⟩ (.slice (some ⟨gg3, 0, none⟩) m.way.length cp3)).drew) := ((((((Chg.refl (fun k => k = g3) wr).setCell (.inl rfl) _).setCell (.inl rfl) _).setCell (.inl rfl) _).setCell (.inl rfl) _).drew)
      have hlt : LentL (((((wr.setCell ⟨g3, 79, none⟩ (.slice (some ⟨gg0, 0, none⟩) m.trail.length cp0)).setCell ⟨g3, 80, none⟩ (.slice (some ⟨gg1, 0, none⟩) m.since.length cp1)).setCell ⟨g3, 81, none⟩ (.slice (some ⟨gg2, 0, none⟩) m.pairs.length cp2)).setCell ⟨g3, 82, none⟩ (.slice (some ⟨gg3, 0, none⟩) m.way.length cp3)).drew) (g3 + 1) m ⟨.slice (some ⟨gg0, 0, none⟩) m.trail.length cp0, .slice (some ⟨gg1, 0, none⟩) m.since.length cp1, .slice (some ⟨gg2, 0, none⟩) m.pairs.length cp2, .slice (some ⟨gg3, 0, none⟩) m.way.length cp3⟩ := ⟨⟨gg0, cp0, rfl, by have h := HLa.out.t; rw [Hlen0.out, HT.out] at h; exact own_chg h hcw (fun k hk e => by have := (HLa.out.t.lt k hk).1; omega)⟩, ⟨gg1, cp1, rfl, by have h := HLa.out.s; rw [Hlen1.out, HU.out] at h; exact own_chg h hcw (fun k hk e => by have := (HLa.out.s.lt k hk).1; omega)⟩, ⟨gg2, cp2, rfl, by have h := HLa.out.p; rw [Hlen2.out, HP.out] at h; exact own_chg h hcw (fun k hk e => by have := (HLa.out.p.lt k hk).1; omega)⟩, ⟨gg3, cp3, rfl, by have h := HLa.out.y; rw [Hlen3.out, HY.out] at h; exact own_chg h hcw (fun k hk e => by have := (HLa.out.y.lt k hk).1; omega)⟩⟩
      have hb2 : Blk (((((wr.setCell ⟨g3, 79, none⟩ (.slice (some ⟨gg0, 0, none⟩) m.trail.length cp0)).setCell ⟨g3, 80, none⟩ (.slice (some ⟨gg1, 0, none⟩) m.since.length cp1)).setCell ⟨g3, 81, none⟩ (.slice (some ⟨gg2, 0, none⟩) m.pairs.length cp2)).setCell ⟨g3, 82, none⟩ (.slice (some ⟨gg3, 0, none⟩) m.way.length cp3)).drew) (w.heap.size + 1) 36 Tryz.zeroCells36 := HLa.out.b2.chg hcw HLa.out.ne2
      have hcc : Chg (fun _ => False) w (((((wr.setCell ⟨g3, 79, none⟩ (.slice (some ⟨gg0, 0, none⟩) m.trail.length cp0)).setCell ⟨g3, 80, none⟩ (.slice (some ⟨gg1, 0, none⟩) m.since.length cp1)).setCell ⟨g3, 81, none⟩ (.slice (some ⟨gg2, 0, none⟩) m.pairs.length cp2)).setCell ⟨g3, 82, none⟩ (.slice (some ⟨gg3, 0, none⟩) m.way.length cp3)).drew) := HLa.out.chg.andThen hcw (fun k hk e => by have := Hg3.out; omega)
      generalize (((((wr.setCell ⟨g3, 79, none⟩ (.slice (some ⟨gg0, 0, none⟩) m.trail.length cp0)).setCell ⟨g3, 80, none⟩ (.slice (some ⟨gg1, 0, none⟩) m.since.length cp1)).setCell ⟨g3, 81, none⟩ (.slice (some ⟨gg2, 0, none⟩) m.pairs.length cp2)).setCell ⟨g3, 82, none⟩ (.slice (some ⟨gg3, 0, none⟩) m.way.length cp3)).drew) = wz at *
      have hlm := ldM Hm.out.hd hb3
      have hsm := stM hb2 (by rw [zero_msg]; exact mc_len _ _ (only_dg 0 0)) Hm.out.hd (show Slc ⟨.slice (some ⟨gg0, 0, none⟩) m.trail.length cp0, .slice (some ⟨gg1, 0, none⟩) m.since.length cp1, .slice (some ⟨gg2, 0, none⟩) m.pairs.length cp2, .slice (some ⟨gg3, 0, none⟩) m.way.length cp3⟩ from ⟨rfl, rfl, rfl, rfl⟩)
      have B5 := Lib.hid (Blk.setRow hb2 (mcells m ⟨.slice (some ⟨gg0, 0, none⟩) m.trail.length cp0, .slice (some ⟨gg1, 0, none⟩) m.since.length cp1, .slice (some ⟨gg2, 0, none⟩) m.pairs.length cp2, .slice (some ⟨gg3, 0, none⟩) m.way.length cp3⟩))
      have hc5 : Chg (fun k => k = w.heap.size + 1) wz (wz.setRow (w.heap.size + 1) (mcells m ⟨.slice (some ⟨gg0, 0, none⟩) m.trail.length cp0, .slice (some ⟨gg1, 0, none⟩) m.since.length cp1, .slice (some ⟨gg2, 0, none⟩) m.pairs.length cp2, .slice (some ⟨gg3, 0, none⟩) m.way.length cp3⟩)) := (Chg.refl (fun k => k = w.heap.size + 1) wz).setRow (.inl rfl) _
      have L5 := Lib.hid ((hlt.chg hc5 (fun k hk e => by have := HLa.out.lt2; omega)).low (show w.heap.size ≤ g3 + 1 by have := Hg3.out; omega))
      have C5 := Lib.hid (hcc.andThen hc5 (fun k hk e => by omega))
      clear hb3 hcw hlt hb2 hcc hc5 u0 u1 u2 u3 f0 f1 f2 f3 v0 v1 v2 v3
      go_wp2_with fail
      refine bodyPost_ret (results_cell_row rfl _ _ (w.heap.size + 1) 36 (mcells m ⟨.slice (some ⟨gg0, 0, none⟩) m.trail.length cp0, .slice (some ⟨gg1, 0, none⟩) m.since.length cp1, .slice (some ⟨gg2, 0, none⟩) m.pairs.length cp2, .slice (some ⟨gg3, 0, none⟩) m.way.length cp3⟩) (0, 0) _ rfl B5.out Tryz.underlying36 rfl (by rw [mc_len _ _ Hm.out.hd]; exact info_msg)) rfl ?_
      exact ⟨_, rfl, L5.out, C5.out⟩
end Go.Proofs.YthkfcfkkamffpaaGreat
