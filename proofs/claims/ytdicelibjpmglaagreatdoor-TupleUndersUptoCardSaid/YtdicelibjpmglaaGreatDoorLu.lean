/-
  Layer 3: a row as new memory, with marks behind each list (lent).
-/
import Derived.Test.YtdicelibjpmglaaGreatDoorLt
import Derived.Test.YtdicelibjpmglaaGreatDoorTt
import Derived.OwnWalk
import Derived.Deep.AppendLies
namespace Go.Proofs.YtdicelibjpmglaaGreatDoor
open Go.RowKit
set_option linter.unusedVariables false
set_option linter.unusedSimpArgs false
attribute [local go_sem] run_store_float
open Tp (It)

def ic : It → Value → List Value
  | .mk k b n f t _, v => icells k b n f t v
/-- items' cells, their lists' slices given -/
def ics : List It → List Value → List Value
  | x :: l, v :: vs => ic x v ++ ics l vs
  | _, _ => []
def mark (i : Nat) : List Value := icells 200 false i 0 [] (.slice none 0 0)
def marks (i : Nat) : List Value := (List.range i).flatMap mark
theorem ics_snoc (l : List It) (vs : List Value) (h : vs.length = l.length) (x : It) (v : Value) : ics (l ++ [x]) (vs ++ [v]) = ics l vs ++ ic x v := by
  induction l generalizing vs with
  | nil => cases vs with
    | nil => simp [ics]
    | cons y vs => simp at h
  | cons y l ih => cases vs with
    | nil => simp at h
    | cons u vs => simp only [List.cons_append, ics, ih vs (by simpa using h), List.append_assoc]
theorem marks_succ (i : Nat) : marks (i + 1) = marks i ++ mark i := by simp [marks, List.range_succ]
/-- a row that was lent: new memory from B on, marks behind each list -/
inductive Lent (w : World) : Nat → Value → List It → Prop
  | mk (B g cap : Nat) (l : List It) (vs : List Value) (hB : B ≤ g) (hl : vs.length = l.length) (hlen : l.length ≤ 10000)
      (hin : ∀ (k : Nat) (b : Bool) (n : Int) (f : Nat) (t : List UInt8) (ls : List It), It.mk k b n f t ls ∈ l → InIt k n f t)
      (own : w.ownsRow g 40 6 (.slice (some ⟨g, 0, none⟩) (l.length + 5) cap) (l.length + 5) (ics l vs ++ marks 5))
      (hr0 : ∀ (i k : Nat) (b : Bool) (n : Int) (f : Nat) (t : List UInt8) (ls : List It), l[i]? = some (It.mk k b n f t ls) → vs[i]? = some (.slice none 0 0) → ls = [])
      (hr : ∀ (i k : Nat) (b : Bool) (n : Int) (f : Nat) (t : List UInt8) (ls : List It) (v : Value), l[i]? = some (It.mk k b n f t ls) → vs[i]? = some v → v ≠ .slice none 0 0 → Lent w (g + 1) v ls) : Lent w B (.slice (some ⟨g, 0, none⟩) l.length cap) l
theorem Lent.keep {S : Nat → Prop} {w w' : World} {B : Nat} {v : Value} {l : List It} (h : Lent w B v l) (hc : Chg S w w') (hS : ∀ k, B ≤ k → ¬ S k) : Lent w' B v l := by
  induction h with
  | mk B g cap l vs hB hl hlen hin own hr0 hr ih =>
    exact .mk B g cap l vs hB hl hlen hin (own_chg own hc (fun k hk => by have : g = k := by simpa [Value.ownBlock] using hk
                                                                          subst this; exact hS _ hB)) hr0 (fun i k b n f t ls v h1 h2 h3 => ih i k b n f t ls v h1 h2 h3 (fun k hk => hS k (by omega)))
theorem Lent.mono {w : World} {B B' : Nat} {v : Value} {l : List It} (h : Lent w B v l) (hB : B' ≤ B) : Lent w B' v l := by
  cases h with
  | mk _ g cap l vs hB' hl hlen hin own hr0 hr => exact .mk B' g cap l vs (by omega) hl hlen hin own hr0 hr
theorem Lent.form {w : World} {B : Nat} {v : Value} {l : List It} (h : Lent w B v l) : ∃ g cap, v = .slice (some ⟨g, 0, none⟩) l.length cap := by
  cases h with
  | mk _ g cap l vs hB' hl hlen hin own hr0 hr => exact ⟨g, cap, rfl⟩
theorem Blk.newS (w : World) (p : Addr) (u : Value) (t : TypeId) (cs : Array Value) : Blk ((w.setCell p u).alloc (.cells cs t)) w.heap.size t cs := by
  have := Blk.new (w.setCell p u) t cs
  simpa using this
theorem Row.none_ {w : World} {B n cap : Nat} {l : List It} (h : Row w B (.slice none n cap) l) : n = 0 ∧ cap = 0 ∧ l = [] := by
  cases h with
  | nil A cap hc => exact ⟨rfl, hc rfl, rfl⟩
theorem ics_at : ∀ (l : List It) (vs : List Value), vs.length = l.length → ∀ (i : Nat) (x : It) (v : Value), l[i]? = some x → vs[i]? = some v → ∀ (j : Nat) (u : Value), (ic x v)[j]? = some u → (ics l vs)[i * 6 + j]? = some u
  | [], vs, h, i, x, v, h1, h2, j, u, h3 => by simp at h1
  | y :: l, [], h, i, x, v, h1, h2, j, u, h3 => by simp at h2
  | y :: l, z :: vs, h, 0, x, v, h1, h2, j, u, h3 => by
    simp at h1 h2
    subst h1 h2
    have hj := (List.getElem?_eq_some_iff.1 h3).1
    simp only [ics, Nat.zero_mul, Nat.zero_add]
    rw [List.getElem?_append_left hj]
    exact h3
  | y :: l, z :: vs, h, i + 1, x, v, h1, h2, j, u, h3 => by
    have hy : (ic y z).length = 6 := by obtain ⟨k, b, n, f, t, ls⟩ := y; rfl
    have := ics_at l vs (by simpa using h) i x v (by simpa using h1) (by simpa using h2) j u h3
    simp only [ics]
    rw [List.getElem?_append_right (by omega), hy, show (i + 1) * 6 + j - 6 = i * 6 + j by omega]
    exact this
theorem Lent.row {w : World} {B : Nat} {v : Value} {l : List It} (h : Lent w B v l) : Row w w.heap.size v l := by
  induction h with
  | mk B g cap l vs hB hl hlen hin own hr0 hr ih =>
    have hg := (own.lt g rfl).2
    have hcap : l.length + 5 ≤ cap := by
      rcases own.2 with ⟨h, -⟩ | ⟨g', cap', cur, h, -, -, hc, -⟩
      · cases h
      · injection h with h1 h2 h3; omega
    refine .mk g 0 cap l vs hg hl (by omega) (by omega) hin ?_ ?_
    · intro i k b n f t ls v h1 h2 j u hu
      have h3 := ics_at l vs hl i _ v h1 h2 j u hu
      have h4 := own.cells (g := g) rfl (i * 6 + j) u (by rw [List.getElem?_append_left (List.getElem?_eq_some_iff.1 h3).1]; exact h3)
      have hadd : (⟨g, 0, none⟩ : Addr).add (i * 6 + j) = ⟨g, i * 6 + j, none⟩ := by unfold Addr.add; split <;> simp_all
      rw [hadd] at h4
      rw [Nat.zero_add]; exact h4
    · intro i k b n f t ls v h1 h2
      by_cases hv : v = .slice none 0 0
      · subst hv
        obtain rfl := hr0 i k b n f t ls h1 h2
        exact .nil none 0 (fun _ => rfl)
      · exact ih i k b n f t ls v h1 h2 hv

set_option maxHeartbeats 8000000 in
set_option maxRecDepth 100000 in
theorem lent_calls : ∀ (N : Nat) (w0 : World) (B : Nat) (v : Value) (l : List It) (hrow : Row w0 B v l) (w : World), Keep w0 B w → Tp.cnt l < N → Tp.cnt l ≤ 10000 →
    Calls Tryz.prog 19 #[v] w fun e w' => ∃ v', e = .returned v' ∧ Lent w' w.heap.size v' l ∧ Chg (fun _ => False) w w' := by
  obtain ⟨i0, hi, hz0, hz1, hz2⟩ := info_parts info_item
  intro N
  induction N with
  | zero => intro w0 B v l hrow w hk hN hb; omega
  | succ N ihN =>
    intro w0 B v l hrow w hk hN hb
    have hlb := Tp.cnt_ge l
    obtain ⟨A, cap, rfl, -, -⟩ := hrow.slice
    have Hrow := Lib.hid hrow
    have hwl : IntKind.i64.wrap ((l.length : Int) + 5) = ((l.length + 5 : Nat) : Int) := by rw [IntWalk.i64_in _ (by omega)]; rfl
    have HI0 := Lib.hid ihN
    clear hrow ihN
    go_enter Tryz.func19, Tryz.ntmps19
    go_wp2_with (at_make; refine wpList_make_own _ rfl _ _ 22 rfl w.heap.size 40 i0 _ 6 Tryz.underlying22 hi hz0 hz1 .i64 .i64 ((l.length + 5 : Nat) : Int) (l.length + 5) rfl rfl rfl (by rw [hz2]; omega) (by unfold maxLen; omega) (Nat.le_refl _) ?_; intro w1 hown1 hgr1)
    have hs1 : w.heap.size < w1.heap.size := (hown1.lt w.heap.size rfl).2
    have hc1 : Chg (fun _ => False) w w1 := (Chg.refl _ w).grown hgr1 (fun k hk => by cases hk)
    have Hown1 := Lib.hid hown1
    have Hc1 := Lib.hid hc1
    clear hown1 hgr1 hc1
    go_loopw [3, 4] (fun fv jv wr => ∃ (j : Nat) (vs : List Value), j ≤ l.length ∧ vs.length = j ∧ fv = .slice (some ⟨w.heap.size, 0, none⟩) j (l.length + 5) ∧ jv = .int .i64 j ∧
        wr.ownsRow w.heap.size 40 6 (.slice (some ⟨w.heap.size, 0, none⟩) j (l.length + 5)) j (ics (l.take j) vs) ∧
        (∀ (i k : Nat) (b : Bool) (n : Int) (f : Nat) (t : List UInt8) (ls : List It), l[i]? = some (It.mk k b n f t ls) → vs[i]? = some (.slice none 0 0) → ls = []) ∧
        (∀ (i k : Nat) (b : Bool) (n : Int) (f : Nat) (t : List UInt8) (ls : List It) (v : Value), l[i]? = some (It.mk k b n f t ls) → vs[i]? = some v → v ≠ .slice none 0 0 → Lent wr (w.heap.size + 1) v ls) ∧
        Chg (fun _ => False) w wr) (fun _ jv _ => l.length - (intOf jv).toNat)
    case atStart => exact ⟨0, [], by omega, rfl, rfl, rfl, Hown1.out, by intros; simp at *, by intros; simp at *, Hc1.out⟩
    case round =>
      obtain ⟨j, vs, hj, hvs, rfl, rfl, hown, hsub0, hsub, hc'⟩ := hrel
      rcases Nat.lt_or_ge j l.length with hlt | hge
      · obtain ⟨⟨xk, xb, xn, xf, xt, xl⟩, hx⟩ : ∃ x, l[j]? = some x := ⟨_, List.getElem?_eq_getElem hlt⟩
        obtain ⟨gr, off, cap2, xv, hA, hgr, hin, hcells, hr⟩ := Hrow.out.get hx
        obtain ⟨rfl, rfl⟩ : A = some ⟨gr, off, none⟩ ∧ cap = cap2 := by injection hA with a1 a2 a3; exact ⟨a1, a3⟩
        have hk' := hk.chg hc' (fun k hkB e => e)
        have hcell : ∀ q u, (icells xk xb xn xf xt xv)[q]? = some u → wr.cell? ⟨gr, off + j * 6 + q, none⟩ = some u := fun q u hq => by
          rw [hk'.1 _ hgr]; exact hcells q u hq
        have c0 := hcell 0 _ rfl
        have c1 := hcell 1 _ rfl
        have c2 := hcell 2 _ rfl
        have c3 := hcell 3 _ rfl
        have c4 := hcell 4 _ rfl
        have c5 := hcell 5 _ rfl
        rw [Nat.add_zero] at c0
        have hs1' := Tp.cnt_sub hx
        have hsz := (hown.lt w.heap.size rfl).2
        obtain ⟨A2, xcap, rfl, -, -⟩ := hr.slice
        have HL := Lib.hid (fun wc (hcx : Chg (fun _ => False) wr wc) => (HI0.out) _ _ _ _ hr wc (hk'.chg hcx (fun k hkB e => e)) (by omega) (by omega))
        have Hnone := Lib.hid (fun (h : A2 = none) => by subst h; exact hr.none_)
        have Hx := Lib.hid hx
        have Hsub0 := Lib.hid hsub0
        have Hsub := Lib.hid hsub
        have Hc' := Lib.hid hc'
        have Hvs := Lib.hid hvs
        have Hown := Lib.hid hown
        have hrel2 : ∀ (v2 : Value) (w3 : World), w3.ownsRow w.heap.size 40 6 (.slice (some ⟨w.heap.size, 0, none⟩) (j + 1) (l.length + 5)) (j + 1) (ics (l.take j) vs ++ icells xk xb xn xf xt v2) → Chg (fun k => k = w.heap.size) wr w3 →
            (v2 = .slice none 0 0 → xl = []) → (v2 ≠ .slice none 0 0 → Lent w3 (w.heap.size + 1) v2 xl) →
            ∃ (j' : Nat) (vs' : List Value), j' ≤ l.length ∧ vs'.length = j' ∧ Value.slice (some ⟨w.heap.size, 0, none⟩) (j + 1) (l.length + 5) = .slice (some ⟨w.heap.size, 0, none⟩) j' (l.length + 5) ∧ Value.int .i64 ((j : Int) + 1) = .int .i64 j' ∧
              w3.ownsRow w.heap.size 40 6 (.slice (some ⟨w.heap.size, 0, none⟩) j' (l.length + 5)) j' (ics (l.take j') vs') ∧
              (∀ (i k : Nat) (b : Bool) (n : Int) (f : Nat) (t : List UInt8) (ls : List It), l[i]? = some (It.mk k b n f t ls) → vs'[i]? = some (.slice none 0 0) → ls = []) ∧
              (∀ (i k : Nat) (b : Bool) (n : Int) (f : Nat) (t : List UInt8) (ls : List It) (v : Value), l[i]? = some (It.mk k b n f t ls) → vs'[i]? = some v → v ≠ .slice none 0 0 → Lent w3 (w.heap.size + 1) v ls) ∧
              Chg (fun _ => False) w w3 := by
          intro v2 w3 hown3 hc3 h0 h1
          refine ⟨j + 1, vs ++ [v2], by omega, by simp [hvs], rfl, rfl, ?_, ?_, ?_, hc'.andThen hc3 (fun k hk e => by omega)⟩
          · rw [take_snoc hx, ics_snoc _ _ (by rw [hvs, List.length_take]; omega)]
            exact hown3
          · intro i k b n f t ls hli hvi
            rcases Nat.lt_or_ge i j with hij | hij
            · rw [List.getElem?_append_left (by omega)] at hvi
              exact hsub0 i k b n f t ls hli hvi
            · have hij2 : i = j := by have := (List.getElem?_eq_some_iff.1 hvi).1; simp at this; omega
              subst hij2
              rw [hx] at hli
              injection hli with hli
              injection hli with e1 e2 e3 e4 e5 e6
              subst e6
              rw [List.getElem?_append_right (by omega), hvs, Nat.sub_self] at hvi
              simp at hvi
              exact h0 hvi
          · intro i k b n f t ls v hli hvi hv
            rcases Nat.lt_or_ge i j with hij | hij
            · rw [List.getElem?_append_left (by omega)] at hvi
              exact (hsub i k b n f t ls v hli hvi hv).keep hc3 (fun k hk e => by omega)
            · have hij2 : i = j := by have := (List.getElem?_eq_some_iff.1 hvi).1; simp at this; omega
              subst hij2
              rw [hx] at hli
              injection hli with hli
              injection hli with e1 e2 e3 e4 e5 e6
              subst e6
              rw [List.getElem?_append_right (by omega), hvs, Nat.sub_self] at hvi
              simp at hvi
              subst hvi
              exact h1 hv
        have Hrel := Lib.hid hrel2
        clear hrel2 hsub0 hsub hc' hvs hx hr hin hcells hcell hk' hk hA hs1' hown
        rcases A2 with _ | a2
        · obtain ⟨h1, h2, h3⟩ := (Hnone.out) rfl
          rw [h1] at c5
          subst h2 h3
          clear HL Hnone h1
          go_wp2_with (at_builtin; refine wpList_append_fits _ rfl (.tmp 28) (.tmp 30) 22 rfl w.heap.size 40 i0 6 Tryz.underlying22 hi hz1 w.heap.size j (l.length + 5) _ rfl (((Hown.out).alloc _).alloc _) ⟨wr.heap.size + 1, 0, none⟩ 1 1 (icells xk xb xn xf xt (.slice none 0 0)) rfl rfl (World.news_of_block (B := wr.heap.size + 1) (cs := #[.int .u8 xk, .bool xb, .int .i64 xn, .float .f64 xf, S xt, .slice none 0 0]) (t := 40) (fr := (0, 0)) (Blk.new' wr _ _ _)) (by simp [Value.oneCell', icells]) (by omega) ?_; intro w3 hown3 hgr3)
          go_round
          case rel =>
            exact (Hrel.out) (.slice none 0 0) w3 hown3 (((((Chg.refl _ wr).alloc _).alloc _).grown hgr3 (fun k hk => .inl (by injection hk with hk; exact hk.symm)))) (fun _ => rfl) (fun h => absurd rfl h)
          case measure => simp [intOf]; omega
        · clear Hnone
          go_wp2_with fail
          refine (HL.out _ ((Chg.refl _ wr).alloc _)).mono ?_
          rintro e w2 ⟨v2, rfl, hlent, hc2⟩
          obtain ⟨g2, cap3, rfl⟩ := hlent.form
          have hb2 := (Blk.new wr 40 #[.int .u8 xk, .bool xb, .int .i64 xn, .float .f64 xf, S xt, .slice (some a2) xl.length xcap]).chg hc2 (fun h => h)
          have hbs : ∀ u, Blk (w2.setCell ⟨wr.heap.size, 5, none⟩ u) wr.heap.size 40 #[.int .u8 xk, .bool xb, .int .i64 xn, .float .f64 xf, S xt, u] := fun u => hb2.set_ 5 u
          have e5 : w2.cell? ⟨wr.heap.size, 5, none⟩ = some (.slice (some a2) xl.length xcap) := by rw [hb2.cell]; rfl
          have f5 := hb2.frozen 5
          have d0 : ∀ u, (w2.setCell ⟨wr.heap.size, 5, none⟩ u).cell? ⟨wr.heap.size, 0, none⟩ = some (.int .u8 xk) := fun u => by rw [(hbs u).cell]; rfl
          have d1 : ∀ u, (w2.setCell ⟨wr.heap.size, 5, none⟩ u).cell? ⟨wr.heap.size, 1, none⟩ = some (.bool xb) := fun u => by rw [(hbs u).cell]; rfl
          have d2 : ∀ u, (w2.setCell ⟨wr.heap.size, 5, none⟩ u).cell? ⟨wr.heap.size, 2, none⟩ = some (.int .i64 xn) := fun u => by rw [(hbs u).cell]; rfl
          have d3 : ∀ u, (w2.setCell ⟨wr.heap.size, 5, none⟩ u).cell? ⟨wr.heap.size, 3, none⟩ = some (.float .f64 xf) := fun u => by rw [(hbs u).cell]; rfl
          have d4 : ∀ u, (w2.setCell ⟨wr.heap.size, 5, none⟩ u).cell? ⟨wr.heap.size, 4, none⟩ = some (S xt) := fun u => by rw [(hbs u).cell]; rfl
          have d5 : ∀ u, (w2.setCell ⟨wr.heap.size, 5, none⟩ u).cell? ⟨wr.heap.size, 5, none⟩ = some u := fun u => by rw [(hbs u).cell]; rfl
          have hsz2 := hc2.size
          simp at hsz2
          have hne : wr.heap.size ≠ w.heap.size := by omega
          have hown2 := own_far (p := ⟨wr.heap.size, 5, none⟩) (own_chg ((Hown.out).alloc (.cells #[.int .u8 xk, .bool xb, .int .i64 xn, .float .f64 xf, S xt, .slice (some a2) xl.length xcap] 40)) hc2 (fun _ _ h => h)) (by simp [Value.ownBlock]; omega) (.slice (some ⟨g2, 0, none⟩) xl.length cap3)
          have Hlent := Lib.hid hlent
          have Hc2 := Lib.hid hc2
          clear hb2 hbs hlent hc2
          go_wp2_with (at_builtin; refine wpList_append_fits _ rfl (.tmp 28) (.tmp 30) 22 rfl w.heap.size 40 i0 6 Tryz.underlying22 hi hz1 w.heap.size j (l.length + 5) _ rfl (hown2.alloc _) ⟨w2.heap.size, 0, none⟩ 1 1 (icells xk xb xn xf xt (.slice (some ⟨g2, 0, none⟩) xl.length cap3)) rfl rfl (World.news_of_block (B := w2.heap.size) (cs := #[.int .u8 xk, .bool xb, .int .i64 xn, .float .f64 xf, S xt, .slice (some ⟨g2, 0, none⟩) xl.length cap3]) (t := 40) (fr := (0, 0)) (Blk.newS w2 _ _ _ _)) (by simp [Value.oneCell', icells]) (by omega) ?_; intro w3 hown3 hgr3)
          go_round
          case rel =>
            have hst : Chg (fun k => k = wr.heap.size ∨ k = w.heap.size) w2 w3 := (((Chg.refl _ w2).setCell (p := ⟨wr.heap.size, 5, none⟩) (.inl (.inl rfl)) _).alloc _).grown hgr3 (fun k hk => .inl (.inr (by injection hk with hk; exact hk.symm)))
            refine (Hrel.out) _ w3 hown3 ((((Chg.refl _ wr).alloc _).andThen Hc2.out (fun _ _ h => h.elim)).andThen hst (fun k hk h => by rcases h with h | h; exact absurd hk (by omega); exact h)) (fun h => by cases h) (fun _ => ?_)
            exact ((Hlent.out).keep hst (fun k hk h => by simp at hk; omega)).mono (by simp; omega)
          case measure => simp [intOf]; omega
      · have hjl : j = l.length := by omega
        have hnl : ¬ ((j : Int) < (l.length : Int)) := by omega
        have hnl2 : decide ((j : Int) < (l.length : Int)) = false := by rw [decide_eq_false_iff_not]; omega
        have Hown := Lib.hid (show wr.ownsRow w.heap.size 40 6 (.slice (some ⟨w.heap.size, 0, none⟩) (l.length + 0) (l.length + 5)) (l.length + 0) (ics l vs ++ marks 0) by
          rw [hjl, List.take_length] at hown; simpa [marks] using hown)
        have Hvl := Lib.hid (show vs.length = l.length by omega)
        have Hin := Lib.hid (show ∀ (k : Nat) (b : Bool) (n : Int) (f : Nat) (t : List UInt8) (ls : List It), It.mk k b n f t ls ∈ l → InIt k n f t from fun k b n f t ls hm => by
          obtain ⟨i, hi⟩ := List.mem_iff_getElem?.1 hm
          obtain ⟨g, off, c2, vx, -, -, h, -, -⟩ := Hrow.out.get hi
          exact h)
        have Hsub0 := Lib.hid hsub0
        have Hsub := Lib.hid hsub
        have Hc' := Lib.hid hc'
        clear hown hsub0 hsub hc' hvs hk
        go_wp2_with fail
        go_loopw [3, 6] (fun fv iv wx => ∃ i : Nat, i ≤ 5 ∧ fv = .slice (some ⟨w.heap.size, 0, none⟩) (l.length + i) (l.length + 5) ∧ iv = .int .i64 i ∧ wx.ownsRow w.heap.size 40 6 (.slice (some ⟨w.heap.size, 0, none⟩) (l.length + i) (l.length + 5)) (l.length + i) (ics l vs ++ marks i) ∧
          (∀ (i k : Nat) (b : Bool) (n : Int) (f : Nat) (t : List UInt8) (ls : List It) (v : Value), l[i]? = some (It.mk k b n f t ls) → vs[i]? = some v → v ≠ .slice none 0 0 → Lent wx (w.heap.size + 1) v ls) ∧ Chg (fun _ => False) w wx) (fun _ iv _ => 5 - (intOf iv).toNat)
        case atStart => exact ⟨0, by omega, by first | rfl | (rw [hjl]; rfl), rfl, Hown.out, Hsub.out, Hc'.out⟩
        case round =>
          obtain ⟨i, hi5, rfl, rfl, hown, hsub, hc⟩ := hrel
          have hsz := (hown.lt w.heap.size rfl).2
          have Hsub2 := Lib.hid hsub
          have Hc := Lib.hid hc
          have Hown2 := Lib.hid hown
          clear hsub hc hown
          rcases Nat.lt_or_ge i 5 with hlt | hge5
          · go_wp2_with (at_builtin; refine wpList_append_fits _ rfl (.tmp 36) (.tmp 39) 22 rfl w.heap.size 40 i0 6 Tryz.underlying22 hi hz1 w.heap.size (l.length + i) (l.length + 5) _ rfl ((Hown2.out).alloc _) ⟨wr.heap.size, 0, none⟩ 1 1 (mark i) rfl rfl (World.news_of_block (B := wr.heap.size) (cs := #[.int .u8 200, .bool false, .int .i64 i, .float .f64 0, S [], .slice none 0 0]) (t := 40) (fr := (0, 0)) (Blk.new wr _ _)) (by simp [Value.oneCell', mark, icells]) (by omega) ?_; intro w3 hown3 hgr3)
            go_round
            case rel =>
              have hst : Chg (fun k => k = w.heap.size) wr w3 := ((Chg.refl _ wr).alloc _).grown hgr3 (fun k hk => .inl (by injection hk with hk; exact hk.symm))
              refine ⟨i + 1, by omega, by rw [Nat.add_assoc], by go_num, ?_, fun i k b n f t ls v h1 h2 h3 => ((Hsub2.out) i k b n f t ls v h1 h2 h3).keep hst (fun k hk e => by omega), (Hc.out).andThen hst (fun k hk e => by omega)⟩
              rw [marks_succ, ← List.append_assoc]
              exact hown3
            case measure => simp [intOf]; omega
          · obtain rfl : i = 5 := by omega
            go_wp2_with fail
            go_ret
            exact ⟨_, rfl, .mk w.heap.size w.heap.size (l.length + 5) l vs (Nat.le_refl _) Hvl.out (by omega) Hin.out Hown2.out Hsub0.out Hsub2.out, Hc.out⟩
end Go.Proofs.YtdicelibjpmglaaGreatDoor
