/-
  Layer 27: the functions of a field that is a list. Printed by gen_wn.py.
-/
import Derived.Test.YthkfcfkkamffpaaGreatWk
namespace Go.Proofs.YthkfcfkkamffpaaGreat
open Go.RowKit
set_option linter.unusedVariables false
set_option linter.unusedSimpArgs false
open Wm (M Fd)
attribute [local go_sem ↓] ld_dig st_dig
theorem own_slc {w : World} {base size n : Nat} {e : TypeId} {v : Value} {xs : List Value} (h : w.ownsRow base e size v n xs) : ∃ A c, v = .slice A n c := by
  rcases h.2 with ⟨h1, h2⟩ | ⟨g, cap, _, hv, _⟩
  · exact ⟨none, 0, by rw [h1, h2]⟩
  · exact ⟨_, _, hv⟩

set_option maxHeartbeats 2000000 in
set_option maxRecDepth 100000 in
theorem list_lay_int (F LF : FuncId) (off : Nat) (hF : Tells F off) (hLF : ∀ (args : Array Value) (w : World), (callFunc LF args).run Tryz.prog w = .ok (.enter LF args) w) (g gm b0 b2 : Nat) (A : Option Addr) (c : Nat) (l : List Int) (bts : Int → List UInt8) (v : Value) (xs : List UInt8) (w : World) (h : IsW w g v xs)
    (hb0 : w.cell? ⟨b0, 0, none⟩ = some (fn0 F)) (hb2 : w.cell? ⟨b2, 0, none⟩ = some (fn0 LF)) (hx : w.cell? ⟨gm, off, none⟩ = some (.slice A l.length c))
    (hl : RL w A 1 l.length (l.flatMap fun x => [.int .i64 x])) (ho : Off (fun k => k = g ∨ v.ownBlock = some k) A l.length) (hn : l.length ≤ 1048576) (hroom : xs.length + 10 + (l.flatMap bts).length ≤ 1000000000)
    (n0 : ¬ (b0 = g ∨ v.ownBlock = some b0)) (n2 : ¬ (b2 = g ∨ v.ownBlock = some b2)) (ngm : ¬ (gm = g ∨ v.ownBlock = some gm))
    (hone : ∀ x ∈ l, ∀ (v : Value) (xs : List UInt8) (w : World), IsW w g v xs → xs.length + (bts x).length ≤ 1000000000 → Calls Tryz.prog LF #[pt g, .int .i64 x] w fun e w' => e = .returned (.tuple #[]) ∧ Wrote w w' g v (xs ++ bts x)) :
    Calls Tryz.prog 111 #[pt g, pt gm, pt b0, pt b2] w fun e w' => e = .returned (.tuple #[]) ∧ Wrote w w' g v (xs ++ (Pk.free l.length ++ l.flatMap bts)) := by
  have hrun := hF.run
  have HF := Lib.hid hF.calls
  have HE := Lib.hid (each_int g LF A c l bts v xs w.drew ⟨h.blk.drew, h.own.drew⟩ (show RL w.drew A 1 l.length _ from hl) ho hn hroom hLF hone)
  have N0 := Lib.hid n0
  have N2 := Lib.hid n2
  have Ngm := Lib.hid ngm
  clear hF hone hl ho n0 n2 ngm
  go_enter Tryz.func111, Tryz.ntmps111
  go_wp2_with fail
  go_region_held3 (fun w' => w'.cell? ⟨b0, 0, none⟩ = some (fn0 F) ∧ w'.cell? ⟨b2, 0, none⟩ = some (fn0 LF) ∧ w'.cell? ⟨gm, off, none⟩ = some (.slice A l.length c)) (first | exact ⟨hb0, hb2, hx⟩ | exact ⟨k0, k1, k2⟩ | go_keep)
    (first
      | (refine (HF.out _ _).mono ?_; rintro e w5 ⟨rfl, rfl⟩)
      | (go_at_call 112; refine (HE.out).mono ?_; rintro e w6 ⟨rfl, v6, h6, hc6, hv6⟩; have k0 := keepC hc6 N0.out (show w.drew.cell? ⟨b0, 0, none⟩ = _ from hb0); have k1 := keepC hc6 N2.out (show w.drew.cell? ⟨b2, 0, none⟩ = _ from hb2); have k2 := keepC hc6 Ngm.out (show w.drew.cell? ⟨gm, off, none⟩ = _ from hx)))
  all_goals
    go_wp2_with fail
    go_end0
    exact ⟨rfl, v6, h6, (Chg.refl _ w).drew.trans hc6, hv6⟩

set_option maxHeartbeats 2000000 in
set_option maxRecDepth 100000 in
theorem list_take_int (F TF : FuncId) (off : Nat) (hF : Tells F off) (hTF : ∀ (args : Array Value) (w : World), (callFunc TF args).run Tryz.prog w = .ok (.enter TF args) w) (step : Pk.Rd → Int × Pk.Rd) (g gm b0 b1 b3 : Nat) (most : Int) (r : Pk.Rd) (cs : Array Value) (w : World)
    (h : IsR w g r) (hi : I64 most) (hlen : r.s.length ≤ 1000000000) (hb0 : w.cell? ⟨b0, 0, none⟩ = some (fn0 F)) (hb1 : w.cell? ⟨b1, 0, none⟩ = some (.int .i64 most)) (hb3 : w.cell? ⟨b3, 0, none⟩ = some (fn0 TF)) (hg : Blk w gm 36 cs) (ho : off < cs.size)
    (n0 : b0 ≠ g) (n1 : b1 ≠ g) (n3 : b3 ≠ g) (n2 : gm ≠ g) (m0 : b0 ≠ gm) (m1 : b1 ≠ gm) (m3 : b3 ≠ gm)
    (hone : ∀ (rd : Pk.Rd) (w' : World), IsR w' g rd → rd.f = 0 → Calls Tryz.prog TF #[pt g] w' fun e w'' => e = .returned ((fun x : Int => .int .i64 x) (step rd).1) ∧ IsR w'' g (step rd).2 ∧ Chg (fun b => b = g) w' w'') :
    Calls Tryz.prog 113 #[pt g, pt gm, pt b1, pt b3, pt b0] w fun e w' => ∃ v, e = .returned (.tuple #[]) ∧ IsR w' g (r.list most step).2 ∧ Blk w' gm 36 (cs.setIfInBounds off v) ∧
      w'.ownsRow w.heap.size 3 1 v (r.list most step).1.length ((r.list most step).1.flatMap fun x => [.int .i64 x]) ∧ Chg (fun k => k = g ∨ k = gm) w w' := by
  have hrun := hF.run
  have hlt := hg.lt
  have c0 : ∃ u, w.cell? ⟨gm, off, none⟩ = some u := ⟨_, by rw [hg.cell]; exact Array.getElem?_eq_getElem ho⟩
  obtain ⟨u0, c0⟩ := c0
  have HF := Lib.hid hF.calls
  have Hg := Lib.hid hg
  have HT := Lib.hid (list_int step g TF most r w.drew ⟨h.blk.drew, h.le, h.len⟩ hi hlen hTF hone)
  obtain ⟨x, hx⟩ : ∃ x, (r.list most step).1 = x := ⟨_, rfl⟩
  obtain ⟨r2, hr2⟩ : ∃ r2, (r.list most step).2 = r2 := ⟨_, rfl⟩
  rw [hx, hr2] at HT
  rw [hx, hr2]
  clear hF hg ho hx hr2 hone
  go_enter Tryz.func113, Tryz.ntmps113
  go_wp2_with fail
  go_region_held3 (fun w' => w'.cell? ⟨b0, 0, none⟩ = some (fn0 F) ∧ w'.cell? ⟨b1, 0, none⟩ = some (.int .i64 most) ∧ w'.cell? ⟨b3, 0, none⟩ = some (fn0 TF)) (first | exact ⟨hb0, hb1, hb3⟩ | exact ⟨k0, k1, k3⟩ | exact ⟨(World.cell?_setCell_other _ _ _ _ (fun e => by have := congrArg Addr.block e; simp at this; omega)).trans k0, (World.cell?_setCell_other _ _ _ _ (fun e => by have := congrArg Addr.block e; simp at this; omega)).trans k1, (World.cell?_setCell_other _ _ _ _ (fun e => by have := congrArg Addr.block e; simp at this; omega)).trans k3⟩ | go_keep)
    (first
      | (refine (HF.out _ _).mono ?_; rintro e w5 ⟨rfl, rfl⟩)
      | (go_at_call 114; refine (HT.out).mono ?_; rintro e w6 ⟨v6, rfl, hown, hred1, hred2⟩; obtain ⟨A6, c6, rfl⟩ := own_slc hown; have k0 := keepC hred2 n0 (show w.drew.cell? ⟨b0, 0, none⟩ = _ from hb0); have k1 := keepC hred2 n1 (show w.drew.cell? ⟨b1, 0, none⟩ = _ from hb1); have k3 := keepC hred2 n3 (show w.drew.cell? ⟨b3, 0, none⟩ = _ from hb3); have hgm := ((Hg.out).drew).chg hred2 n2; have f6 := hgm.frozen off; have d6 := keepC hred2 n2 (show w.drew.cell? ⟨gm, off, none⟩ = _ from c0)))
  all_goals
    go_wp2_with fail
    go_end0
    have hch : Chg (fun k => k = gm) w6 (w6.setCell ⟨gm, off, none⟩ (.slice A6 x.length c6)) := (Chg.refl (fun k => k = gm) w6).setCell (p := ⟨gm, off, none⟩) (.inl rfl) _
    refine ⟨_, rfl, ⟨hred1.blk.far (Ne.symm n2) _, hred1.le, hred1.len⟩, hgm.set_ off _, own_chg hown hch (fun b hb hs => by have h3 := (hown.lt b hb).1; have : w.drew.heap.size = w.heap.size := rfl; omega), ((Chg.refl (fun k => k = g ∨ k = gm) w).drew.trans (hred2.mono (S' := fun k => k = g ∨ k = gm) (fun k _ hk => .inl hk))).setCell (p := ⟨gm, off, none⟩) (.inl (.inr rfl)) _⟩

set_option maxHeartbeats 2000000 in
set_option maxRecDepth 100000 in
theorem list_copy_int (F : FuncId) (off : Nat) (hF : Tells F off) (go gm b0 : Nat) (A : Option Addr) (n c : Nat) (cs : Array Value) (w : World) (hb0 : w.cell? ⟨b0, 0, none⟩ = some (fn0 F)) (hx : w.cell? ⟨gm, off, none⟩ = some (.slice A n c)) (hg : Blk w go 36 cs) (ho : off < cs.size) (n0 : b0 ≠ go) (n1 : gm ≠ go) :
    Calls Tryz.prog 115 #[pt go, pt gm, pt b0] w fun e w' => e = .returned (.tuple #[]) ∧ Blk w' go 36 (cs.setIfInBounds off (.slice A n c)) ∧ Chg (fun k => k = go) w w' := by
  have hrun := hF.run
  have m0 := Ne.symm n0
  have m1 := Ne.symm n1
  have f0 := hg.frozen off
  have c0 : ∃ u, w.cell? ⟨go, off, none⟩ = some u := ⟨_, by rw [hg.cell]; exact Array.getElem?_eq_getElem ho⟩
  obtain ⟨u0, c0⟩ := c0
  have HF := Lib.hid hF.calls
  have Hg := Lib.hid hg
  clear hF hg ho
  go_enter Tryz.func115, Tryz.ntmps115
  go_wp2_with fail
  go_region_held3 (fun w' => w'.cell? ⟨b0, 0, none⟩ = some (fn0 F) ∧ w'.cell? ⟨gm, off, none⟩ = some (.slice A n c)) (first | exact ⟨hb0, hx⟩ | exact ⟨(World.cell?_setCell_other _ _ _ _ (fun e => by have := congrArg Addr.block e; simp at this; omega)).trans hb0, (World.cell?_setCell_other _ _ _ _ (fun e => by have := congrArg Addr.block e; simp at this; omega)).trans hx⟩ | go_keep) ((refine (HF.out _ _).mono ?_; rintro e w5 ⟨rfl, rfl⟩))
  all_goals
    go_wp2_with fail
    go_end0
    exact ⟨rfl, ((Hg.out).set_ off _).drew, ((Chg.refl (fun k => k = go) w).setCell (p := ⟨go, off, none⟩) (.inl rfl) _).drew⟩

set_option maxHeartbeats 1000000 in
set_option maxRecDepth 100000 in
theorem list_not_int (MF : FuncId) (hMF : ∀ (args : Array Value) (w : World), (callFunc MF args).run Tryz.prog w = .ok (.enter MF args) w) (b4 : Nat) (x : Int) (q : Bool) (w : World) (hb4 : w.cell? ⟨b4, 0, none⟩ = some (fn0 MF))
    (hone : ∀ w, Calls Tryz.prog MF #[.int .i64 x] w fun e w' => e = .returned (.bool q) ∧ Chg (fun _ => False) w w') :
    Calls Tryz.prog 118 (#[.int .i64 x] ++ #[pt b4]) w fun e w' => e = .returned (.bool (!q)) ∧ Chg (fun _ => False) w w' := by
  have Hone := Lib.hid hone
  clear hone
  show Calls Tryz.prog 118 #[.int .i64 x, pt b4] w _
  go_enter Tryz.func118, Tryz.ntmps118
  go_wp2_with fail
  refine ((Hone.out) _).mono ?_
  rintro e w1 ⟨rfl, hc⟩
  go_wp2_with fail
  go_ret
  exact ⟨rfl, hc⟩

set_option maxHeartbeats 2000000 in
set_option maxRecDepth 100000 in
theorem list_may_int (F MF : FuncId) (off : Nat) (hF : Tells F off) (hMF : ∀ (args : Array Value) (w : World), (callFunc MF args).run Tryz.prog w = .ok (.enter MF args) w) (gm b0 b1 b4 : Nat) (most : Int) (A : Option Addr) (c : Nat) (l : List Int) (p : Int → Bool) (w : World)
    (hb0 : w.cell? ⟨b0, 0, none⟩ = some (fn0 F)) (hb1 : w.cell? ⟨b1, 0, none⟩ = some (.int .i64 most)) (hb4 : w.cell? ⟨b4, 0, none⟩ = some (fn0 MF)) (hx : w.cell? ⟨gm, off, none⟩ = some (.slice A l.length c))
    (hl : RL w A 1 l.length (l.flatMap fun x => [.int .i64 x])) (hn : l.length ≤ 1048576)
    (hone : ∀ x ∈ l, ∀ (w : World), Calls Tryz.prog MF #[.int .i64 x] w fun e w' => e = .returned (.bool (p x)) ∧ Chg (fun _ => False) w w') :
    Calls Tryz.prog 116 #[pt gm, pt b0, pt b1, pt b4] w fun e w' => e = .returned (.bool (decide ((l.length : Int) ≤ most) && l.all p)) ∧ Chg (fun _ => False) w w' := by
  have hrun := hF.run
  have HF := Lib.hid hF.calls
  have HQ := Lib.hid hF.quiet
  by_cases hm : (l.length : Int) ≤ most
  · have d1 : decide ((l.length : Int) ≤ most) = true := decide_eq_true hm
    have HC := Lib.hid (contains_int 118 #[pt b4] A c l p w.drew (show RL w.drew A 1 l.length _ from hl) hn (fun _ _ => by kernel_rfl)
      (fun x hx w' hc => list_not_int MF hMF b4 x (p x) w' (keepC hc (fun h => h) (show w.drew.cell? ⟨b4, 0, none⟩ = _ from hb4)) (hone x hx)))
    rw [d1, Bool.true_and]
    clear hF hone hl hMF
    generalize l.all p = q at HC ⊢
    go_enter Tryz.func116, Tryz.ntmps116
    go_wp2_with fail
    go_region_held3 (fun w' => w'.cell? ⟨b0, 0, none⟩ = some (fn0 F) ∧ w'.cell? ⟨b1, 0, none⟩ = some (.int .i64 most) ∧ w'.cell? ⟨gm, off, none⟩ = some (.slice A l.length c)) (first | exact ⟨hb0, hb1, hx⟩ | exact ⟨k0, k1, k2⟩ | go_keep)
      (first
        | (refine (HF.out _ _).mono ?_; rintro e w5 ⟨rfl, rfl⟩)
        | (go_at_call 117; refine (HC.out).mono ?_; rintro e w6 ⟨rfl, hc6⟩; have k0 := keepC hc6 (fun h => h) (show w.drew.cell? ⟨b0, 0, none⟩ = _ from hb0); have k1 := keepC hc6 (fun h => h) (show w.drew.cell? ⟨b1, 0, none⟩ = _ from hb1); have k2 := keepC hc6 (fun h => h) (show w.drew.cell? ⟨gm, off, none⟩ = _ from hx)))
    all_goals
      go_wp2_with fail
      go_ret
      exact ⟨by simp, (Chg.refl _ w).drew.trans hc6⟩
  · have d1 : decide ((l.length : Int) ≤ most) = false := decide_eq_false hm
    rw [d1, Bool.false_and]
    clear hF hone hl hMF hm
    go_enter Tryz.func116, Tryz.ntmps116
    go_wp2_with fail
    go_quiet ((exact Calls.quiet_of_same ((HQ.out) _ _)))
    go_wp2_with fail
    go_ret
    exact ⟨rfl, (Chg.refl _ w).drewN _⟩

set_option maxHeartbeats 2000000 in
set_option maxRecDepth 100000 in
theorem list_lay_pair (F LF : FuncId) (off : Nat) (hF : Tells F off) (hLF : ∀ (args : Array Value) (w : World), (callFunc LF args).run Tryz.prog w = .ok (.enter LF args) w) (g gm b0 b2 : Nat) (A : Option Addr) (c : Nat) (l : List (List UInt8 × List UInt8)) (bts : (List UInt8 × List UInt8) → List UInt8) (v : Value) (xs : List UInt8) (w : World) (h : IsW w g v xs)
    (hb0 : w.cell? ⟨b0, 0, none⟩ = some (fn0 F)) (hb2 : w.cell? ⟨b2, 0, none⟩ = some (fn0 LF)) (hx : w.cell? ⟨gm, off, none⟩ = some (.slice A l.length c))
    (hl : RL w A 2 l.length (l.flatMap fun x => [S x.1, S x.2])) (ho : Off (fun k => k = g ∨ v.ownBlock = some k) A l.length) (hn : l.length ≤ 1048576) (hroom : xs.length + 10 + (l.flatMap bts).length ≤ 1000000000)
    (n0 : ¬ (b0 = g ∨ v.ownBlock = some b0)) (n2 : ¬ (b2 = g ∨ v.ownBlock = some b2)) (ngm : ¬ (gm = g ∨ v.ownBlock = some gm))
    (hone : ∀ x ∈ l, ∀ (v : Value) (xs : List UInt8) (w : World), IsW w g v xs → xs.length + (bts x).length ≤ 1000000000 → Calls Tryz.prog LF #[pt g, .agg #[S x.1, S x.2]] w fun e w' => e = .returned (.tuple #[]) ∧ Wrote w w' g v (xs ++ bts x)) :
    Calls Tryz.prog 166 #[pt g, pt gm, pt b0, pt b2] w fun e w' => e = .returned (.tuple #[]) ∧ Wrote w w' g v (xs ++ (Pk.free l.length ++ l.flatMap bts)) := by
  have hrun := hF.run
  have HF := Lib.hid hF.calls
  have HE := Lib.hid (each_pair g LF A c l bts v xs w.drew ⟨h.blk.drew, h.own.drew⟩ (show RL w.drew A 2 l.length _ from hl) ho hn hroom hLF hone)
  have N0 := Lib.hid n0
  have N2 := Lib.hid n2
  have Ngm := Lib.hid ngm
  clear hF hone hl ho n0 n2 ngm
  go_enter Tryz.func166, Tryz.ntmps166
  go_wp2_with fail
  go_region_held3 (fun w' => w'.cell? ⟨b0, 0, none⟩ = some (fn0 F) ∧ w'.cell? ⟨b2, 0, none⟩ = some (fn0 LF) ∧ w'.cell? ⟨gm, off, none⟩ = some (.slice A l.length c)) (first | exact ⟨hb0, hb2, hx⟩ | exact ⟨k0, k1, k2⟩ | go_keep)
    (first
      | (refine (HF.out _ _).mono ?_; rintro e w5 ⟨rfl, rfl⟩)
      | (go_at_call 167; refine (HE.out).mono ?_; rintro e w6 ⟨rfl, v6, h6, hc6, hv6⟩; have k0 := keepC hc6 N0.out (show w.drew.cell? ⟨b0, 0, none⟩ = _ from hb0); have k1 := keepC hc6 N2.out (show w.drew.cell? ⟨b2, 0, none⟩ = _ from hb2); have k2 := keepC hc6 Ngm.out (show w.drew.cell? ⟨gm, off, none⟩ = _ from hx)))
  all_goals
    go_wp2_with fail
    go_end0
    exact ⟨rfl, v6, h6, (Chg.refl _ w).drew.trans hc6, hv6⟩

set_option maxHeartbeats 2000000 in
set_option maxRecDepth 100000 in
theorem list_take_pair (F TF : FuncId) (off : Nat) (hF : Tells F off) (hTF : ∀ (args : Array Value) (w : World), (callFunc TF args).run Tryz.prog w = .ok (.enter TF args) w) (step : Pk.Rd → (List UInt8 × List UInt8) × Pk.Rd) (g gm b0 b1 b3 : Nat) (most : Int) (r : Pk.Rd) (cs : Array Value) (w : World)
    (h : IsR w g r) (hi : I64 most) (hlen : r.s.length ≤ 1000000000) (hb0 : w.cell? ⟨b0, 0, none⟩ = some (fn0 F)) (hb1 : w.cell? ⟨b1, 0, none⟩ = some (.int .i64 most)) (hb3 : w.cell? ⟨b3, 0, none⟩ = some (fn0 TF)) (hg : Blk w gm 36 cs) (ho : off < cs.size)
    (n0 : b0 ≠ g) (n1 : b1 ≠ g) (n3 : b3 ≠ g) (n2 : gm ≠ g) (m0 : b0 ≠ gm) (m1 : b1 ≠ gm) (m3 : b3 ≠ gm)
    (hone : ∀ (rd : Pk.Rd) (w' : World), IsR w' g rd → rd.f = 0 → Calls Tryz.prog TF #[pt g] w' fun e w'' => e = .returned ((fun x : (List UInt8 × List UInt8) => .agg #[S x.1, S x.2]) (step rd).1) ∧ IsR w'' g (step rd).2 ∧ Chg (fun b => b = g) w' w'') :
    Calls Tryz.prog 168 #[pt g, pt gm, pt b1, pt b3, pt b0] w fun e w' => ∃ v, e = .returned (.tuple #[]) ∧ IsR w' g (r.list most step).2 ∧ Blk w' gm 36 (cs.setIfInBounds off v) ∧
      w'.ownsRow w.heap.size 75 2 v (r.list most step).1.length ((r.list most step).1.flatMap fun x => [S x.1, S x.2]) ∧ Chg (fun k => k = g ∨ k = gm) w w' := by
  have hrun := hF.run
  have hlt := hg.lt
  have c0 : ∃ u, w.cell? ⟨gm, off, none⟩ = some u := ⟨_, by rw [hg.cell]; exact Array.getElem?_eq_getElem ho⟩
  obtain ⟨u0, c0⟩ := c0
  have HF := Lib.hid hF.calls
  have Hg := Lib.hid hg
  have HT := Lib.hid (list_pair step g TF most r w.drew ⟨h.blk.drew, h.le, h.len⟩ hi hlen hTF hone)
  obtain ⟨x, hx⟩ : ∃ x, (r.list most step).1 = x := ⟨_, rfl⟩
  obtain ⟨r2, hr2⟩ : ∃ r2, (r.list most step).2 = r2 := ⟨_, rfl⟩
  rw [hx, hr2] at HT
  rw [hx, hr2]
  clear hF hg ho hx hr2 hone
  go_enter Tryz.func168, Tryz.ntmps168
  go_wp2_with fail
  go_region_held3 (fun w' => w'.cell? ⟨b0, 0, none⟩ = some (fn0 F) ∧ w'.cell? ⟨b1, 0, none⟩ = some (.int .i64 most) ∧ w'.cell? ⟨b3, 0, none⟩ = some (fn0 TF)) (first | exact ⟨hb0, hb1, hb3⟩ | exact ⟨k0, k1, k3⟩ | exact ⟨(World.cell?_setCell_other _ _ _ _ (fun e => by have := congrArg Addr.block e; simp at this; omega)).trans k0, (World.cell?_setCell_other _ _ _ _ (fun e => by have := congrArg Addr.block e; simp at this; omega)).trans k1, (World.cell?_setCell_other _ _ _ _ (fun e => by have := congrArg Addr.block e; simp at this; omega)).trans k3⟩ | go_keep)
    (first
      | (refine (HF.out _ _).mono ?_; rintro e w5 ⟨rfl, rfl⟩)
      | (go_at_call 169; refine (HT.out).mono ?_; rintro e w6 ⟨v6, rfl, hown, hred1, hred2⟩; obtain ⟨A6, c6, rfl⟩ := own_slc hown; have k0 := keepC hred2 n0 (show w.drew.cell? ⟨b0, 0, none⟩ = _ from hb0); have k1 := keepC hred2 n1 (show w.drew.cell? ⟨b1, 0, none⟩ = _ from hb1); have k3 := keepC hred2 n3 (show w.drew.cell? ⟨b3, 0, none⟩ = _ from hb3); have hgm := ((Hg.out).drew).chg hred2 n2; have f6 := hgm.frozen off; have d6 := keepC hred2 n2 (show w.drew.cell? ⟨gm, off, none⟩ = _ from c0)))
  all_goals
    go_wp2_with fail
    go_end0
    have hch : Chg (fun k => k = gm) w6 (w6.setCell ⟨gm, off, none⟩ (.slice A6 x.length c6)) := (Chg.refl (fun k => k = gm) w6).setCell (p := ⟨gm, off, none⟩) (.inl rfl) _
    refine ⟨_, rfl, ⟨hred1.blk.far (Ne.symm n2) _, hred1.le, hred1.len⟩, hgm.set_ off _, own_chg hown hch (fun b hb hs => by have h3 := (hown.lt b hb).1; have : w.drew.heap.size = w.heap.size := rfl; omega), ((Chg.refl (fun k => k = g ∨ k = gm) w).drew.trans (hred2.mono (S' := fun k => k = g ∨ k = gm) (fun k _ hk => .inl hk))).setCell (p := ⟨gm, off, none⟩) (.inl (.inr rfl)) _⟩

set_option maxHeartbeats 2000000 in
set_option maxRecDepth 100000 in
theorem list_copy_pair (F : FuncId) (off : Nat) (hF : Tells F off) (go gm b0 : Nat) (A : Option Addr) (n c : Nat) (cs : Array Value) (w : World) (hb0 : w.cell? ⟨b0, 0, none⟩ = some (fn0 F)) (hx : w.cell? ⟨gm, off, none⟩ = some (.slice A n c)) (hg : Blk w go 36 cs) (ho : off < cs.size) (n0 : b0 ≠ go) (n1 : gm ≠ go) :
    Calls Tryz.prog 170 #[pt go, pt gm, pt b0] w fun e w' => e = .returned (.tuple #[]) ∧ Blk w' go 36 (cs.setIfInBounds off (.slice A n c)) ∧ Chg (fun k => k = go) w w' := by
  have hrun := hF.run
  have m0 := Ne.symm n0
  have m1 := Ne.symm n1
  have f0 := hg.frozen off
  have c0 : ∃ u, w.cell? ⟨go, off, none⟩ = some u := ⟨_, by rw [hg.cell]; exact Array.getElem?_eq_getElem ho⟩
  obtain ⟨u0, c0⟩ := c0
  have HF := Lib.hid hF.calls
  have Hg := Lib.hid hg
  clear hF hg ho
  go_enter Tryz.func170, Tryz.ntmps170
  go_wp2_with fail
  go_region_held3 (fun w' => w'.cell? ⟨b0, 0, none⟩ = some (fn0 F) ∧ w'.cell? ⟨gm, off, none⟩ = some (.slice A n c)) (first | exact ⟨hb0, hx⟩ | exact ⟨(World.cell?_setCell_other _ _ _ _ (fun e => by have := congrArg Addr.block e; simp at this; omega)).trans hb0, (World.cell?_setCell_other _ _ _ _ (fun e => by have := congrArg Addr.block e; simp at this; omega)).trans hx⟩ | go_keep) ((refine (HF.out _ _).mono ?_; rintro e w5 ⟨rfl, rfl⟩))
  all_goals
    go_wp2_with fail
    go_end0
    exact ⟨rfl, ((Hg.out).set_ off _).drew, ((Chg.refl (fun k => k = go) w).setCell (p := ⟨go, off, none⟩) (.inl rfl) _).drew⟩

set_option maxHeartbeats 1000000 in
set_option maxRecDepth 100000 in
theorem list_not_pair (MF : FuncId) (hMF : ∀ (args : Array Value) (w : World), (callFunc MF args).run Tryz.prog w = .ok (.enter MF args) w) (b4 : Nat) (x : (List UInt8 × List UInt8)) (q : Bool) (w : World) (hb4 : w.cell? ⟨b4, 0, none⟩ = some (fn0 MF))
    (hone : ∀ w, Calls Tryz.prog MF #[.agg #[S x.1, S x.2]] w fun e w' => e = .returned (.bool q) ∧ Chg (fun _ => False) w w') :
    Calls Tryz.prog 173 (#[.agg #[S x.1, S x.2]] ++ #[pt b4]) w fun e w' => e = .returned (.bool (!q)) ∧ Chg (fun _ => False) w w' := by
  have Hone := Lib.hid hone
  clear hone
  have hb4' : ∀ o, (w.alloc o).cell? ⟨b4, 0, none⟩ = some (fn0 MF) := fun o => keepC ((Chg.refl (fun _ => False) w).alloc o) (fun h => h) hb4
  show Calls Tryz.prog 173 #[.agg #[S x.1, S x.2], pt b4] w _
  go_enter Tryz.func173, Tryz.ntmps173
  go_wp2_with fail
  refine ((Hone.out) _).mono ?_
  rintro e w1 ⟨rfl, hc⟩
  go_wp2_with fail
  go_ret
  exact ⟨rfl, ((Chg.refl _ w).alloc _).trans hc⟩

set_option maxHeartbeats 2000000 in
set_option maxRecDepth 100000 in
theorem list_may_pair (F MF : FuncId) (off : Nat) (hF : Tells F off) (hMF : ∀ (args : Array Value) (w : World), (callFunc MF args).run Tryz.prog w = .ok (.enter MF args) w) (gm b0 b1 b4 : Nat) (most : Int) (A : Option Addr) (c : Nat) (l : List (List UInt8 × List UInt8)) (p : (List UInt8 × List UInt8) → Bool) (w : World)
    (hb0 : w.cell? ⟨b0, 0, none⟩ = some (fn0 F)) (hb1 : w.cell? ⟨b1, 0, none⟩ = some (.int .i64 most)) (hb4 : w.cell? ⟨b4, 0, none⟩ = some (fn0 MF)) (hx : w.cell? ⟨gm, off, none⟩ = some (.slice A l.length c))
    (hl : RL w A 2 l.length (l.flatMap fun x => [S x.1, S x.2])) (hn : l.length ≤ 1048576)
    (hone : ∀ x ∈ l, ∀ (w : World), Calls Tryz.prog MF #[.agg #[S x.1, S x.2]] w fun e w' => e = .returned (.bool (p x)) ∧ Chg (fun _ => False) w w') :
    Calls Tryz.prog 171 #[pt gm, pt b0, pt b1, pt b4] w fun e w' => e = .returned (.bool (decide ((l.length : Int) ≤ most) && l.all p)) ∧ Chg (fun _ => False) w w' := by
  have hrun := hF.run
  have HF := Lib.hid hF.calls
  have HQ := Lib.hid hF.quiet
  by_cases hm : (l.length : Int) ≤ most
  · have d1 : decide ((l.length : Int) ≤ most) = true := decide_eq_true hm
    have HC := Lib.hid (contains_pair 173 #[pt b4] A c l p w.drew (show RL w.drew A 2 l.length _ from hl) hn (fun _ _ => by kernel_rfl)
      (fun x hx w' hc => list_not_pair MF hMF b4 x (p x) w' (keepC hc (fun h => h) (show w.drew.cell? ⟨b4, 0, none⟩ = _ from hb4)) (hone x hx)))
    rw [d1, Bool.true_and]
    clear hF hone hl hMF
    generalize l.all p = q at HC ⊢
    go_enter Tryz.func171, Tryz.ntmps171
    go_wp2_with fail
    go_region_held3 (fun w' => w'.cell? ⟨b0, 0, none⟩ = some (fn0 F) ∧ w'.cell? ⟨b1, 0, none⟩ = some (.int .i64 most) ∧ w'.cell? ⟨gm, off, none⟩ = some (.slice A l.length c)) (first | exact ⟨hb0, hb1, hx⟩ | exact ⟨k0, k1, k2⟩ | go_keep)
      (first
        | (refine (HF.out _ _).mono ?_; rintro e w5 ⟨rfl, rfl⟩)
        | (go_at_call 172; refine (HC.out).mono ?_; rintro e w6 ⟨rfl, hc6⟩; have k0 := keepC hc6 (fun h => h) (show w.drew.cell? ⟨b0, 0, none⟩ = _ from hb0); have k1 := keepC hc6 (fun h => h) (show w.drew.cell? ⟨b1, 0, none⟩ = _ from hb1); have k2 := keepC hc6 (fun h => h) (show w.drew.cell? ⟨gm, off, none⟩ = _ from hx)))
    all_goals
      go_wp2_with fail
      go_ret
      exact ⟨by simp, (Chg.refl _ w).drew.trans hc6⟩
  · have d1 : decide ((l.length : Int) ≤ most) = false := decide_eq_false hm
    rw [d1, Bool.false_and]
    clear hF hone hl hMF hm
    go_enter Tryz.func171, Tryz.ntmps171
    go_wp2_with fail
    go_quiet ((exact Calls.quiet_of_same ((HQ.out) _ _)))
    go_wp2_with fail
    go_ret
    exact ⟨rfl, (Chg.refl _ w).drewN _⟩

set_option maxHeartbeats 2000000 in
set_option maxRecDepth 100000 in
theorem list_lay_dig (F LF : FuncId) (off : Nat) (hF : Tells F off) (hLF : ∀ (args : Array Value) (w : World), (callFunc LF args).run Tryz.prog w = .ok (.enter LF args) w) (g gm b0 b2 : Nat) (A : Option Addr) (c : Nat) (l : List (List UInt8)) (bts : (List UInt8) → List UInt8) (v : Value) (xs : List UInt8) (w : World) (h : IsW w g v xs)
    (hb0 : w.cell? ⟨b0, 0, none⟩ = some (fn0 F)) (hb2 : w.cell? ⟨b2, 0, none⟩ = some (fn0 LF)) (hx : w.cell? ⟨gm, off, none⟩ = some (.slice A l.length c))
    (hl : RL w A 32 l.length (l.flatMap fun x => bys x)) (hlen : ∀ d ∈ l, d.length = 32) (ho : Off (fun k => k = g ∨ v.ownBlock = some k) A l.length) (hn : l.length ≤ 1048576) (hroom : xs.length + 10 + (l.flatMap bts).length ≤ 1000000000)
    (n0 : ¬ (b0 = g ∨ v.ownBlock = some b0)) (n2 : ¬ (b2 = g ∨ v.ownBlock = some b2)) (ngm : ¬ (gm = g ∨ v.ownBlock = some gm))
    (hone : ∀ x ∈ l, ∀ (v : Value) (xs : List UInt8) (w : World), IsW w g v xs → xs.length + (bts x).length ≤ 1000000000 → Calls Tryz.prog LF #[pt g, .agg (bys x).toArray] w fun e w' => e = .returned (.tuple #[]) ∧ Wrote w w' g v (xs ++ bts x)) :
    Calls Tryz.prog 183 #[pt g, pt gm, pt b0, pt b2] w fun e w' => e = .returned (.tuple #[]) ∧ Wrote w w' g v (xs ++ (Pk.free l.length ++ l.flatMap bts)) := by
  have hrun := hF.run
  have HF := Lib.hid hF.calls
  have HE := Lib.hid (each_dig g LF A c l bts v xs w.drew ⟨h.blk.drew, h.own.drew⟩ (show RL w.drew A 32 l.length _ from hl) hlen ho hn hroom hLF hone)
  have N0 := Lib.hid n0
  have N2 := Lib.hid n2
  have Ngm := Lib.hid ngm
  clear hF hone hl ho n0 n2 ngm hlen
  go_enter Tryz.func183, Tryz.ntmps183
  go_wp2_with fail
  go_region_held3 (fun w' => w'.cell? ⟨b0, 0, none⟩ = some (fn0 F) ∧ w'.cell? ⟨b2, 0, none⟩ = some (fn0 LF) ∧ w'.cell? ⟨gm, off, none⟩ = some (.slice A l.length c)) (first | exact ⟨hb0, hb2, hx⟩ | exact ⟨k0, k1, k2⟩ | go_keep)
    (first
      | (refine (HF.out _ _).mono ?_; rintro e w5 ⟨rfl, rfl⟩)
      | (go_at_call 184; refine (HE.out).mono ?_; rintro e w6 ⟨rfl, v6, h6, hc6, hv6⟩; have k0 := keepC hc6 N0.out (show w.drew.cell? ⟨b0, 0, none⟩ = _ from hb0); have k1 := keepC hc6 N2.out (show w.drew.cell? ⟨b2, 0, none⟩ = _ from hb2); have k2 := keepC hc6 Ngm.out (show w.drew.cell? ⟨gm, off, none⟩ = _ from hx)))
  all_goals
    go_wp2_with fail
    go_end0
    exact ⟨rfl, v6, h6, (Chg.refl _ w).drew.trans hc6, hv6⟩

set_option maxHeartbeats 2000000 in
set_option maxRecDepth 100000 in
theorem list_take_dig (F TF : FuncId) (off : Nat) (hF : Tells F off) (hTF : ∀ (args : Array Value) (w : World), (callFunc TF args).run Tryz.prog w = .ok (.enter TF args) w) (step : Pk.Rd → (List UInt8) × Pk.Rd) (g gm b0 b1 b3 : Nat) (most : Int) (r : Pk.Rd) (cs : Array Value) (w : World)
    (h : IsR w g r) (hi : I64 most) (hlen : r.s.length ≤ 1000000000) (hsz : ∀ rd, (step rd).1.length = 32) (hb0 : w.cell? ⟨b0, 0, none⟩ = some (fn0 F)) (hb1 : w.cell? ⟨b1, 0, none⟩ = some (.int .i64 most)) (hb3 : w.cell? ⟨b3, 0, none⟩ = some (fn0 TF)) (hg : Blk w gm 36 cs) (ho : off < cs.size)
    (n0 : b0 ≠ g) (n1 : b1 ≠ g) (n3 : b3 ≠ g) (n2 : gm ≠ g) (m0 : b0 ≠ gm) (m1 : b1 ≠ gm) (m3 : b3 ≠ gm)
    (hone : ∀ (rd : Pk.Rd) (w' : World), IsR w' g rd → rd.f = 0 → Calls Tryz.prog TF #[pt g] w' fun e w'' => e = .returned ((fun x : (List UInt8) => .agg (bys x).toArray) (step rd).1) ∧ IsR w'' g (step rd).2 ∧ Chg (fun b => b = g) w' w'') :
    Calls Tryz.prog 185 #[pt g, pt gm, pt b1, pt b3, pt b0] w fun e w' => ∃ v, e = .returned (.tuple #[]) ∧ IsR w' g (r.list most step).2 ∧ Blk w' gm 36 (cs.setIfInBounds off v) ∧
      w'.ownsRow w.heap.size 27 32 v (r.list most step).1.length ((r.list most step).1.flatMap fun x => bys x) ∧ Chg (fun k => k = g ∨ k = gm) w w' := by
  have hrun := hF.run
  have hlt := hg.lt
  have c0 : ∃ u, w.cell? ⟨gm, off, none⟩ = some u := ⟨_, by rw [hg.cell]; exact Array.getElem?_eq_getElem ho⟩
  obtain ⟨u0, c0⟩ := c0
  have HF := Lib.hid hF.calls
  have Hg := Lib.hid hg
  have HT := Lib.hid (list_dig step g TF most r w.drew ⟨h.blk.drew, h.le, h.len⟩ hi hlen hsz hTF hone)
  obtain ⟨x, hx⟩ : ∃ x, (r.list most step).1 = x := ⟨_, rfl⟩
  obtain ⟨r2, hr2⟩ : ∃ r2, (r.list most step).2 = r2 := ⟨_, rfl⟩
  rw [hx, hr2] at HT
  rw [hx, hr2]
  clear hF hg ho hx hr2 hone hsz
  go_enter Tryz.func185, Tryz.ntmps185
  go_wp2_with fail
  go_region_held3 (fun w' => w'.cell? ⟨b0, 0, none⟩ = some (fn0 F) ∧ w'.cell? ⟨b1, 0, none⟩ = some (.int .i64 most) ∧ w'.cell? ⟨b3, 0, none⟩ = some (fn0 TF)) (first | exact ⟨hb0, hb1, hb3⟩ | exact ⟨k0, k1, k3⟩ | exact ⟨(World.cell?_setCell_other _ _ _ _ (fun e => by have := congrArg Addr.block e; simp at this; omega)).trans k0, (World.cell?_setCell_other _ _ _ _ (fun e => by have := congrArg Addr.block e; simp at this; omega)).trans k1, (World.cell?_setCell_other _ _ _ _ (fun e => by have := congrArg Addr.block e; simp at this; omega)).trans k3⟩ | go_keep)
    (first
      | (refine (HF.out _ _).mono ?_; rintro e w5 ⟨rfl, rfl⟩)
      | (go_at_call 186; refine (HT.out).mono ?_; rintro e w6 ⟨v6, rfl, hown, hred1, hred2⟩; obtain ⟨A6, c6, rfl⟩ := own_slc hown; have k0 := keepC hred2 n0 (show w.drew.cell? ⟨b0, 0, none⟩ = _ from hb0); have k1 := keepC hred2 n1 (show w.drew.cell? ⟨b1, 0, none⟩ = _ from hb1); have k3 := keepC hred2 n3 (show w.drew.cell? ⟨b3, 0, none⟩ = _ from hb3); have hgm := ((Hg.out).drew).chg hred2 n2; have f6 := hgm.frozen off; have d6 := keepC hred2 n2 (show w.drew.cell? ⟨gm, off, none⟩ = _ from c0)))
  all_goals
    go_wp2_with fail
    go_end0
    have hch : Chg (fun k => k = gm) w6 (w6.setCell ⟨gm, off, none⟩ (.slice A6 x.length c6)) := (Chg.refl (fun k => k = gm) w6).setCell (p := ⟨gm, off, none⟩) (.inl rfl) _
    refine ⟨_, rfl, ⟨hred1.blk.far (Ne.symm n2) _, hred1.le, hred1.len⟩, hgm.set_ off _, own_chg hown hch (fun b hb hs => by have h3 := (hown.lt b hb).1; have : w.drew.heap.size = w.heap.size := rfl; omega), ((Chg.refl (fun k => k = g ∨ k = gm) w).drew.trans (hred2.mono (S' := fun k => k = g ∨ k = gm) (fun k _ hk => .inl hk))).setCell (p := ⟨gm, off, none⟩) (.inl (.inr rfl)) _⟩

set_option maxHeartbeats 2000000 in
set_option maxRecDepth 100000 in
theorem list_copy_dig (F : FuncId) (off : Nat) (hF : Tells F off) (go gm b0 : Nat) (A : Option Addr) (n c : Nat) (cs : Array Value) (w : World) (hb0 : w.cell? ⟨b0, 0, none⟩ = some (fn0 F)) (hx : w.cell? ⟨gm, off, none⟩ = some (.slice A n c)) (hg : Blk w go 36 cs) (ho : off < cs.size) (n0 : b0 ≠ go) (n1 : gm ≠ go) :
    Calls Tryz.prog 187 #[pt go, pt gm, pt b0] w fun e w' => e = .returned (.tuple #[]) ∧ Blk w' go 36 (cs.setIfInBounds off (.slice A n c)) ∧ Chg (fun k => k = go) w w' := by
  have hrun := hF.run
  have m0 := Ne.symm n0
  have m1 := Ne.symm n1
  have f0 := hg.frozen off
  have c0 : ∃ u, w.cell? ⟨go, off, none⟩ = some u := ⟨_, by rw [hg.cell]; exact Array.getElem?_eq_getElem ho⟩
  obtain ⟨u0, c0⟩ := c0
  have HF := Lib.hid hF.calls
  have Hg := Lib.hid hg
  clear hF hg ho
  go_enter Tryz.func187, Tryz.ntmps187
  go_wp2_with fail
  go_region_held3 (fun w' => w'.cell? ⟨b0, 0, none⟩ = some (fn0 F) ∧ w'.cell? ⟨gm, off, none⟩ = some (.slice A n c)) (first | exact ⟨hb0, hx⟩ | exact ⟨(World.cell?_setCell_other _ _ _ _ (fun e => by have := congrArg Addr.block e; simp at this; omega)).trans hb0, (World.cell?_setCell_other _ _ _ _ (fun e => by have := congrArg Addr.block e; simp at this; omega)).trans hx⟩ | go_keep) ((refine (HF.out _ _).mono ?_; rintro e w5 ⟨rfl, rfl⟩))
  all_goals
    go_wp2_with fail
    go_end0
    exact ⟨rfl, ((Hg.out).set_ off _).drew, ((Chg.refl (fun k => k = go) w).setCell (p := ⟨go, off, none⟩) (.inl rfl) _).drew⟩

set_option maxHeartbeats 1000000 in
set_option maxRecDepth 100000 in
theorem list_not_dig (MF : FuncId) (hMF : ∀ (args : Array Value) (w : World), (callFunc MF args).run Tryz.prog w = .ok (.enter MF args) w) (b4 : Nat) (x : (List UInt8)) (q : Bool) (w : World) (hb4 : w.cell? ⟨b4, 0, none⟩ = some (fn0 MF)) (hx : x.length = 32)
    (hone : ∀ w, Calls Tryz.prog MF #[.agg (bys x).toArray] w fun e w' => e = .returned (.bool q) ∧ Chg (fun _ => False) w w') :
    Calls Tryz.prog 190 (#[.agg (bys x).toArray] ++ #[pt b4]) w fun e w' => e = .returned (.bool (!q)) ∧ Chg (fun _ => False) w w' := by
  have Hone := Lib.hid hone
  clear hone
  have hb4' : ∀ o, (w.alloc o).cell? ⟨b4, 0, none⟩ = some (fn0 MF) := fun o => keepC ((Chg.refl (fun _ => False) w).alloc o) (fun h => h) hb4
  have hld := ldD_new w x hx
  clear hx
  show Calls Tryz.prog 190 #[.agg (bys x).toArray, pt b4] w _
  go_enter Tryz.func190, Tryz.ntmps190
  go_wp2_with fail
  refine ((Hone.out) _).mono ?_
  rintro e w1 ⟨rfl, hc⟩
  go_wp2_with fail
  go_ret
  exact ⟨rfl, ((Chg.refl _ w).alloc _).trans hc⟩

set_option maxHeartbeats 2000000 in
set_option maxRecDepth 100000 in
theorem list_may_dig (F MF : FuncId) (off : Nat) (hF : Tells F off) (hMF : ∀ (args : Array Value) (w : World), (callFunc MF args).run Tryz.prog w = .ok (.enter MF args) w) (gm b0 b1 b4 : Nat) (most : Int) (A : Option Addr) (c : Nat) (l : List (List UInt8)) (p : (List UInt8) → Bool) (w : World)
    (hb0 : w.cell? ⟨b0, 0, none⟩ = some (fn0 F)) (hb1 : w.cell? ⟨b1, 0, none⟩ = some (.int .i64 most)) (hb4 : w.cell? ⟨b4, 0, none⟩ = some (fn0 MF)) (hx : w.cell? ⟨gm, off, none⟩ = some (.slice A l.length c))
    (hl : RL w A 32 l.length (l.flatMap fun x => bys x)) (hlen : ∀ d ∈ l, d.length = 32) (hn : l.length ≤ 1048576)
    (hone : ∀ x ∈ l, ∀ (w : World), Calls Tryz.prog MF #[.agg (bys x).toArray] w fun e w' => e = .returned (.bool (p x)) ∧ Chg (fun _ => False) w w') :
    Calls Tryz.prog 188 #[pt gm, pt b0, pt b1, pt b4] w fun e w' => e = .returned (.bool (decide ((l.length : Int) ≤ most) && l.all p)) ∧ Chg (fun _ => False) w w' := by
  have hrun := hF.run
  have HF := Lib.hid hF.calls
  have HQ := Lib.hid hF.quiet
  by_cases hm : (l.length : Int) ≤ most
  · have d1 : decide ((l.length : Int) ≤ most) = true := decide_eq_true hm
    have HC := Lib.hid (contains_dig 190 #[pt b4] A c l p w.drew (show RL w.drew A 32 l.length _ from hl) hlen hn (fun _ _ => by kernel_rfl)
      (fun x hx w' hc => list_not_dig MF hMF b4 x (p x) w' (keepC hc (fun h => h) (show w.drew.cell? ⟨b4, 0, none⟩ = _ from hb4)) (hlen x hx) (hone x hx)))
    rw [d1, Bool.true_and]
    clear hF hone hl hMF hlen
    generalize l.all p = q at HC ⊢
    go_enter Tryz.func188, Tryz.ntmps188
    go_wp2_with fail
    go_region_held3 (fun w' => w'.cell? ⟨b0, 0, none⟩ = some (fn0 F) ∧ w'.cell? ⟨b1, 0, none⟩ = some (.int .i64 most) ∧ w'.cell? ⟨gm, off, none⟩ = some (.slice A l.length c)) (first | exact ⟨hb0, hb1, hx⟩ | exact ⟨k0, k1, k2⟩ | go_keep)
      (first
        | (refine (HF.out _ _).mono ?_; rintro e w5 ⟨rfl, rfl⟩)
        | (go_at_call 189; refine (HC.out).mono ?_; rintro e w6 ⟨rfl, hc6⟩; have k0 := keepC hc6 (fun h => h) (show w.drew.cell? ⟨b0, 0, none⟩ = _ from hb0); have k1 := keepC hc6 (fun h => h) (show w.drew.cell? ⟨b1, 0, none⟩ = _ from hb1); have k2 := keepC hc6 (fun h => h) (show w.drew.cell? ⟨gm, off, none⟩ = _ from hx)))
    all_goals
      go_wp2_with fail
      go_ret
      exact ⟨by simp, (Chg.refl _ w).drew.trans hc6⟩
  · have d1 : decide ((l.length : Int) ≤ most) = false := decide_eq_false hm
    rw [d1, Bool.false_and]
    clear hF hone hl hMF hm hlen
    go_enter Tryz.func188, Tryz.ntmps188
    go_wp2_with fail
    go_quiet ((exact Calls.quiet_of_same ((HQ.out) _ _)))
    go_wp2_with fail
    go_ret
    exact ⟨rfl, (Chg.refl _ w).drewN _⟩
end Go.Proofs.YthkfcfkkamffpaaGreat
