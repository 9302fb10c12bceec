/-
  Layer 27: the functions of a field that is a text, a number, a truth (closures), by what the field's place holds. Printed by gen_wf.py.
-/
import Derived.Test.YthkfcfkkamffpaaGreatWt
import Derived.Test.YthkfcfkkamffpaaGreatRend
import Derived.Test.YthkfcfkkamffpaaGreatRdig
import Derived.Deep.RegionHeld3
import Derived.BigQuiet
import Derived.Deep.QuietTactic
namespace Go.Proofs.YthkfcfkkamffpaaGreat
open Go.RowKit
set_option linter.unusedVariables false
set_option linter.unusedSimpArgs false

/-- a pointer to a block's first cell -/
abbrev pt (b : Nat) : Value := .pointer (some ⟨b, 0, none⟩)
/-- a function without anything captured -/
abbrev fn0 (F : FuncId) : Value := .func (.func F) #[] #[]
/-- the function F tells the place of a message's cell -/
structure Tells (F : FuncId) (off : Nat) : Prop where
  run : ∀ (args : Array Value) (w : World), (callFunc F args).run Tryz.prog w = .ok (.enter F args) w
  calls : ∀ (gm : Nat) (w : World), Calls Tryz.prog F #[pt gm] w fun e w' => e = .returned (.pointer (some ⟨gm, off, none⟩)) ∧ w = w'
theorem Tells.quiet {F : FuncId} {off : Nat} (h : Tells F off) (gm : Nat) (w : World) : Calls Tryz.prog F #[pt gm] w fun e w' => e = .returned (.pointer (some ⟨gm, off, none⟩)) ∧ w' = w :=
  (h.calls gm w).mono fun _ _ ⟨h1, h2⟩ => ⟨h1, h2.symm⟩
theorem keepC {S : Nat → Prop} {w w' : World} {p : Addr} {v : Value} (hc : Chg S w w') (hn : ¬ S p.block) (h : w.cell? p = some v) : w'.cell? p = some v := (hc.cell (World.block_lt_of_cell? _ _ h) hn).trans h
theorem frz {w : World} {g : Nat} {t : TypeId} {cs : Array Value} (h : Blk w g t cs) (i : Nat) : w.frozen? ⟨g, i, none⟩ = false := h.frozen i

set_option maxHeartbeats 2000000 in
set_option maxRecDepth 100000 in
theorem text_lay (F : FuncId) (off : Nat) (hF : Tells F off) (g gm b0 : Nat) (x : List UInt8) (v : Value) (xs : List UInt8) (w : World) (h : IsW w g v xs) (hb0 : w.cell? ⟨b0, 0, none⟩ = some (fn0 F)) (hx : w.cell? ⟨gm, off, none⟩ = some (S x)) (hroom : xs.length + (Pk.free x.length ++ x).length ≤ 1000000000) :
    Calls Tryz.prog 139 #[pt g, pt gm, pt b0] w fun e w' => e = .returned (.tuple #[]) ∧ Wrote w w' g v (xs ++ (Pk.free x.length ++ x)) := by
  have hrun := hF.run
  have HF := Lib.hid hF.calls
  have HT := Lib.hid (text_calls g x v xs w h (by simp at hroom; omega))
  clear hF hroom
  go_enter Tryz.func139, Tryz.ntmps139
  go_wp2_with fail
  refine (HF.out _ _).mono ?_
  rintro e w5 ⟨rfl, rfl⟩
  go_wp2_with fail
  refine HT.out.mono ?_
  rintro e w6 ⟨rfl, hw⟩
  go_wp2_with fail
  go_end0
  exact ⟨rfl, hw⟩

set_option maxHeartbeats 2000000 in
set_option maxRecDepth 100000 in
theorem text_copy (F : FuncId) (off : Nat) (hF : Tells F off) (go gm b0 : Nat) (x : List UInt8) (cs : Array Value) (w : World) (hb0 : w.cell? ⟨b0, 0, none⟩ = some (fn0 F)) (hx : w.cell? ⟨gm, off, none⟩ = some (S x)) (hg : Blk w go 36 cs) (ho : off < cs.size) (n0 : b0 ≠ go) (n1 : gm ≠ go) :
    Calls Tryz.prog 143 #[pt go, pt gm, pt b0] w fun e w' => e = .returned (.tuple #[]) ∧ Blk w' go 36 (cs.setIfInBounds off (S x)) ∧ Chg (fun k => k = go) w w' := by
  have hrun := hF.run
  have m0 := Ne.symm n0
  have m1 := Ne.symm n1
  have f0 := hg.frozen off
  have c0 : ∃ u, w.cell? ⟨go, off, none⟩ = some u := ⟨_, by rw [hg.cell]; exact Array.getElem?_eq_getElem ho⟩
  obtain ⟨u0, c0⟩ := c0
  have HF := Lib.hid hF.calls
  have Hg := Lib.hid hg
  clear hF hg ho
  go_enter Tryz.func143, Tryz.ntmps143
  go_wp2_with fail
  go_region_held3 (fun w' => w'.cell? ⟨b0, 0, none⟩ = some (fn0 F) ∧ w'.cell? ⟨gm, off, none⟩ = some (S x)) (first | exact ⟨hb0, hx⟩ | exact ⟨(World.cell?_setCell_other _ _ _ _ (fun e => by have := congrArg Addr.block e; simp at this; omega)).trans hb0, (World.cell?_setCell_other _ _ _ _ (fun e => by have := congrArg Addr.block e; simp at this; omega)).trans hx⟩ | go_keep) ((refine (HF.out _ _).mono ?_; rintro e w5 ⟨rfl, rfl⟩))
  all_goals
    go_wp2_with fail
    go_end0
    exact ⟨rfl, ((Hg.out).set_ off _).drew, ((Chg.refl (fun k => k = go) w).setCell (p := ⟨go, off, none⟩) (.inl rfl) _).drew⟩

set_option maxHeartbeats 2000000 in
set_option maxRecDepth 100000 in
theorem text_take (F : FuncId) (off : Nat) (hF : Tells F off) (g gm b0 b1 : Nat) (most : Int) (r : Pk.Rd) (cs : Array Value) (w : World) (h : IsR w g r) (hi : I64 most) (hb0 : w.cell? ⟨b0, 0, none⟩ = some (fn0 F)) (hb1 : w.cell? ⟨b1, 0, none⟩ = some (.int .i64 most)) (hg : Blk w gm 36 cs) (ho : off < cs.size)
    (n0 : b0 ≠ g) (n1 : b1 ≠ g) (n2 : gm ≠ g) (n3 : b0 ≠ gm) (n4 : b1 ≠ gm) :
    Calls Tryz.prog 141 #[pt g, pt gm, pt b1, pt b0] w fun e w' => e = .returned (.tuple #[]) ∧ IsR w' g (r.text most).2 ∧ Blk w' gm 36 (cs.setIfInBounds off (S (r.text most).1)) ∧ Chg (fun k => k = g ∨ k = gm) w w' := by
  have hrun := hF.run
  have f0 := hg.frozen off
  have c0 : ∃ u, w.cell? ⟨gm, off, none⟩ = some u := ⟨_, by rw [hg.cell]; exact Array.getElem?_eq_getElem ho⟩
  obtain ⟨u0, c0⟩ := c0
  have HF := Lib.hid hF.calls
  have Hg := Lib.hid hg
  have hd : IsR w.drew g r := ⟨h.blk.drew, h.le, h.len⟩
  have HT := Lib.hid (rtext_calls g most r w.drew hd hi)
  obtain ⟨x, hx⟩ : ∃ x, (r.text most).1 = x := ⟨_, rfl⟩
  obtain ⟨r2, hr2⟩ : ∃ r2, (r.text most).2 = r2 := ⟨_, rfl⟩
  rw [hx, hr2] at HT
  rw [hx, hr2]
  clear hF hg ho hx hr2
  go_enter Tryz.func141, Tryz.ntmps141
  go_wp2_with fail
  go_region_held3 (fun w' => w'.cell? ⟨b0, 0, none⟩ = some (fn0 F) ∧ w'.cell? ⟨b1, 0, none⟩ = some (.int .i64 most)) (first | exact ⟨hb0, hb1⟩ | exact ⟨k0, k1⟩ | exact ⟨(World.cell?_setCell_other _ _ _ _ (fun e => by have := congrArg Addr.block e; simp at this; omega)).trans k0, (World.cell?_setCell_other _ _ _ _ (fun e => by have := congrArg Addr.block e; simp at this; omega)).trans k1⟩ | go_keep)
    (first
      | (refine (HF.out _ _).mono ?_; rintro e w5 ⟨rfl, rfl⟩)
      | (go_at_call 142; refine (HT.out).mono ?_; rintro e w6 ⟨rfl, hred⟩; have k0 := keepC hred.2 n0 (show w.drew.cell? ⟨b0, 0, none⟩ = _ from hb0); have k1 := keepC hred.2 n1 (show w.drew.cell? ⟨b1, 0, none⟩ = _ from hb1); have hgm := ((Hg.out).drew).chg hred.2 n2; have f6 := hgm.frozen off; have c6 := keepC hred.2 n2 (show w.drew.cell? ⟨gm, off, none⟩ = _ from c0)))
  all_goals
    go_wp2_with fail
    go_end0
    refine ⟨rfl, ⟨hred.1.blk.far (Ne.symm n2) _, hred.1.le, hred.1.len⟩, hgm.set_ off _, ((Chg.refl (fun k => k = g ∨ k = gm) w).drew.trans (hred.2.mono (S' := fun k => k = g ∨ k = gm) (fun k _ hk => .inl hk))).setCell (p := ⟨gm, off, none⟩) (.inl (.inr rfl)) _⟩

set_option maxHeartbeats 2000000 in
set_option maxRecDepth 100000 in
theorem text_may (F : FuncId) (off : Nat) (hF : Tells F off) (gm b0 b1 : Nat) (most : Int) (x : List UInt8) (w : World) (hb0 : w.cell? ⟨b0, 0, none⟩ = some (fn0 F)) (hb1 : w.cell? ⟨b1, 0, none⟩ = some (.int .i64 most)) (hx : w.cell? ⟨gm, off, none⟩ = some (S x)) :
    Calls Tryz.prog 144 #[pt gm, pt b0, pt b1] w fun e w' => e = .returned (.bool (decide ((x.length : Int) ≤ most))) ∧ Chg (fun _ => False) w w' := by
  have hrun := hF.run
  have HF := Lib.hid hF.calls
  clear hF
  go_enter Tryz.func144, Tryz.ntmps144
  go_wp2_with fail
  go_region_held3 (fun w' => w'.cell? ⟨b0, 0, none⟩ = some (fn0 F) ∧ w'.cell? ⟨b1, 0, none⟩ = some (.int .i64 most) ∧ w'.cell? ⟨gm, off, none⟩ = some (S x)) (first | exact ⟨hb0, hb1, hx⟩ | go_keep) ((refine (HF.out _ _).mono ?_; rintro e w5 ⟨rfl, rfl⟩))
  all_goals
    go_wp2_with fail
    go_ret
    exact ⟨rfl, (Chg.refl _ w).drew⟩

set_option maxHeartbeats 2000000 in
set_option maxRecDepth 100000 in
theorem free_lay (F : FuncId) (off : Nat) (hF : Tells F off) (g gm b0 : Nat) (x : Nat) (v : Value) (xs : List UInt8) (w : World) (h : IsW w g v xs) (hb0 : w.cell? ⟨b0, 0, none⟩ = some (fn0 F)) (hx : w.cell? ⟨gm, off, none⟩ = some (.int .u64 x)) (hU : U64 x) (hroom : xs.length + (Pk.free x).length ≤ 1000000000) :
    Calls Tryz.prog 135 #[pt g, pt gm, pt b0] w fun e w' => e = .returned (.tuple #[]) ∧ Wrote w w' g v (xs ++ (Pk.free x)) := by
  have hrun := hF.run
  have HF := Lib.hid hF.calls
  have HT := Lib.hid (free_calls g x v xs w h hU (by omega))
  clear hF hroom hU
  go_enter Tryz.func135, Tryz.ntmps135
  go_wp2_with fail
  refine (HF.out _ _).mono ?_
  rintro e w5 ⟨rfl, rfl⟩
  go_wp2_with fail
  refine HT.out.mono ?_
  rintro e w6 ⟨rfl, hw⟩
  go_wp2_with fail
  go_end0
  exact ⟨rfl, hw⟩

set_option maxHeartbeats 2000000 in
set_option maxRecDepth 100000 in
theorem free_copy (F : FuncId) (off : Nat) (hF : Tells F off) (go gm b0 : Nat) (x : Nat) (cs : Array Value) (w : World) (hb0 : w.cell? ⟨b0, 0, none⟩ = some (fn0 F)) (hx : w.cell? ⟨gm, off, none⟩ = some (.int .u64 x)) (hg : Blk w go 36 cs) (ho : off < cs.size) (n0 : b0 ≠ go) (n1 : gm ≠ go) :
    Calls Tryz.prog 137 #[pt go, pt gm, pt b0] w fun e w' => e = .returned (.tuple #[]) ∧ Blk w' go 36 (cs.setIfInBounds off (.int .u64 x)) ∧ Chg (fun k => k = go) w w' := by
  have hrun := hF.run
  have m0 := Ne.symm n0
  have m1 := Ne.symm n1
  have f0 := hg.frozen off
  have c0 : ∃ u, w.cell? ⟨go, off, none⟩ = some u := ⟨_, by rw [hg.cell]; exact Array.getElem?_eq_getElem ho⟩
  obtain ⟨u0, c0⟩ := c0
  have HF := Lib.hid hF.calls
  have Hg := Lib.hid hg
  clear hF hg ho
  go_enter Tryz.func137, Tryz.ntmps137
  go_wp2_with fail
  go_region_held3 (fun w' => w'.cell? ⟨b0, 0, none⟩ = some (fn0 F) ∧ w'.cell? ⟨gm, off, none⟩ = some (.int .u64 x)) (first | exact ⟨hb0, hx⟩ | exact ⟨(World.cell?_setCell_other _ _ _ _ (fun e => by have := congrArg Addr.block e; simp at this; omega)).trans hb0, (World.cell?_setCell_other _ _ _ _ (fun e => by have := congrArg Addr.block e; simp at this; omega)).trans hx⟩ | go_keep) ((refine (HF.out _ _).mono ?_; rintro e w5 ⟨rfl, rfl⟩))
  all_goals
    go_wp2_with fail
    go_end0
    exact ⟨rfl, ((Hg.out).set_ off _).drew, ((Chg.refl (fun k => k = go) w).setCell (p := ⟨go, off, none⟩) (.inl rfl) _).drew⟩

set_option maxHeartbeats 2000000 in
set_option maxRecDepth 100000 in
theorem free_take (F : FuncId) (off : Nat) (hF : Tells F off) (g gm b0 : Nat) (r : Pk.Rd) (cs : Array Value) (w : World) (h : IsR w g r) (hb0 : w.cell? ⟨b0, 0, none⟩ = some (fn0 F)) (hg : Blk w gm 36 cs) (ho : off < cs.size) (n2 : gm ≠ g) :
    Calls Tryz.prog 136 #[pt g, pt gm, pt b0] w fun e w' => e = .returned (.tuple #[]) ∧ IsR w' g (r.free 18446744073709551615).2 ∧ Blk w' gm 36 (cs.setIfInBounds off (.int .u64 (r.free 18446744073709551615).1)) ∧ Chg (fun k => k = g ∨ k = gm) w w' := by
  have hrun := hF.run
  have c0 : ∃ u, w.cell? ⟨gm, off, none⟩ = some u := ⟨_, by rw [hg.cell]; exact Array.getElem?_eq_getElem ho⟩
  obtain ⟨u0, c0⟩ := c0
  have HF := Lib.hid hF.calls
  have Hg := Lib.hid hg
  have HT := Lib.hid (rfree_callsI g 18446744073709551615 18446744073709551615 r w rfl h)
  obtain ⟨x, hx⟩ : ∃ x, (r.free 18446744073709551615).1 = x := ⟨_, rfl⟩
  obtain ⟨r2, hr2⟩ : ∃ r2, (r.free 18446744073709551615).2 = r2 := ⟨_, rfl⟩
  rw [hx, hr2] at HT
  rw [hx, hr2]
  clear hF hg ho hx hr2
  go_enter Tryz.func136, Tryz.ntmps136
  go_wp2_with fail
  refine (HF.out _ _).mono ?_
  rintro e w5 ⟨rfl, rfl⟩
  go_wp2_with fail
  refine (HT.out).mono ?_
  rintro e w6 ⟨rfl, hred⟩
  have hgm := (Hg.out).chg hred.2 n2
  have f6 := hgm.frozen off
  have c6 := keepC hred.2 n2 c0
  go_wp2_with fail
  go_end0
  refine ⟨rfl, ⟨hred.1.blk.far (Ne.symm n2) _, hred.1.le, hred.1.len⟩, hgm.set_ off _, (hred.2.mono (S' := fun k => k = g ∨ k = gm) (fun k _ hk => .inl hk)).setCell (p := ⟨gm, off, none⟩) (.inl (.inr rfl)) _⟩

set_option maxRecDepth 100000 in
theorem yes_calls (gm : Nat) (w : World) : Calls Tryz.prog 138 #[pt gm] w fun e w' => e = .returned (.bool true) ∧ Chg (fun _ => False) w w' := by
  go_enter Tryz.func138, Tryz.ntmps138
  go_wp2_with fail
  go_ret
  exact ⟨rfl, Chg.refl _ _⟩

set_option maxHeartbeats 2000000 in
set_option maxRecDepth 100000 in
theorem truth_copy (F : FuncId) (off : Nat) (hF : Tells F off) (go gm b0 : Nat) (x : Bool) (cs : Array Value) (w : World) (hb0 : w.cell? ⟨b0, 0, none⟩ = some (fn0 F)) (hx : w.cell? ⟨gm, off, none⟩ = some (.bool x)) (hg : Blk w go 36 cs) (ho : off < cs.size) (n0 : b0 ≠ go) (n1 : gm ≠ go) :
    Calls Tryz.prog 178 #[pt go, pt gm, pt b0] w fun e w' => e = .returned (.tuple #[]) ∧ Blk w' go 36 (cs.setIfInBounds off (.bool x)) ∧ Chg (fun k => k = go) w w' := by
  have hrun := hF.run
  have m0 := Ne.symm n0
  have m1 := Ne.symm n1
  have f0 := hg.frozen off
  have c0 : ∃ u, w.cell? ⟨go, off, none⟩ = some u := ⟨_, by rw [hg.cell]; exact Array.getElem?_eq_getElem ho⟩
  obtain ⟨u0, c0⟩ := c0
  have HF := Lib.hid hF.calls
  have Hg := Lib.hid hg
  clear hF hg ho
  go_enter Tryz.func178, Tryz.ntmps178
  go_wp2_with fail
  go_region_held3 (fun w' => w'.cell? ⟨b0, 0, none⟩ = some (fn0 F) ∧ w'.cell? ⟨gm, off, none⟩ = some (.bool x)) (first | exact ⟨hb0, hx⟩ | exact ⟨(World.cell?_setCell_other _ _ _ _ (fun e => by have := congrArg Addr.block e; simp at this; omega)).trans hb0, (World.cell?_setCell_other _ _ _ _ (fun e => by have := congrArg Addr.block e; simp at this; omega)).trans hx⟩ | go_keep) ((refine (HF.out _ _).mono ?_; rintro e w5 ⟨rfl, rfl⟩))
  all_goals
    go_wp2_with fail
    go_end0
    exact ⟨rfl, ((Hg.out).set_ off _).drew, ((Chg.refl (fun k => k = go) w).setCell (p := ⟨go, off, none⟩) (.inl rfl) _).drew⟩

theorem bit_be (x : Bool) : Pk.be 1 (if x then 1 else 0) = if x then [1] else [0] := by cases x <;> rfl
set_option maxHeartbeats 2000000 in
set_option maxRecDepth 100000 in
theorem truth_lay (F : FuncId) (off : Nat) (hF : Tells F off) (g gm b0 : Nat) (x : Bool) (v : Value) (xs : List UInt8) (w : World) (h : IsW w g v xs) (hb0 : w.cell? ⟨b0, 0, none⟩ = some (fn0 F)) (hx : w.cell? ⟨gm, off, none⟩ = some (.bool x)) (hroom : xs.length + 1 ≤ 1000000000) :
    Calls Tryz.prog 174 #[pt g, pt gm, pt b0] w fun e w' => e = .returned (.tuple #[]) ∧ Wrote w w' g v (xs ++ if x then [1] else [0]) := by
  have hrun := hF.run
  have HF := Lib.hid hF.calls
  cases x
  · have HT := Lib.hid (put_uint8 g 0 v xs w h (by omega) (Lib.hid ⟨by omega, by omega⟩))
    clear hF hroom
    go_enter Tryz.func174, Tryz.ntmps174
    go_wp2_with fail
    refine (HF.out _ _).mono ?_
    rintro e w5 ⟨rfl, rfl⟩
    go_wp2_with fail
    refine HT.out.mono ?_
    rintro e w6 ⟨rfl, hw⟩
    go_wp2_with fail
    go_end0
    exact ⟨rfl, hw⟩
  · have HT := Lib.hid (put_uint8 g 1 v xs w h (by omega) (Lib.hid ⟨by omega, by omega⟩))
    clear hF hroom
    go_enter Tryz.func174, Tryz.ntmps174
    go_wp2_with fail
    refine (HF.out _ _).mono ?_
    rintro e w5 ⟨rfl, rfl⟩
    go_wp2_with fail
    refine HT.out.mono ?_
    rintro e w6 ⟨rfl, hw⟩
    go_wp2_with fail
    go_end0
    exact ⟨rfl, hw⟩

set_option maxHeartbeats 2000000 in
set_option maxRecDepth 100000 in
theorem truth_take (F : FuncId) (off : Nat) (hF : Tells F off) (g gm b0 : Nat) (r : Pk.Rd) (cs : Array Value) (w : World) (h : IsR w g r) (hb0 : w.cell? ⟨b0, 0, none⟩ = some (fn0 F)) (hg : Blk w gm 36 cs) (ho : off < cs.size) (n2 : gm ≠ g) :
    Calls Tryz.prog 176 #[pt g, pt gm, pt b0] w fun e w' => e = .returned (.tuple #[]) ∧ IsR w' g (r.take 1).2 ∧ Blk w' gm 36 (cs.setIfInBounds off (.bool (tk .u8 (r.take 1).1 == 1))) ∧ Chg (fun k => k = g ∨ k = gm) w w' := by
  have hrun := hF.run
  have c0 : ∃ u, w.cell? ⟨gm, off, none⟩ = some u := ⟨_, by rw [hg.cell]; exact Array.getElem?_eq_getElem ho⟩
  obtain ⟨u0, c0⟩ := c0
  have HF := Lib.hid hF.calls
  have Hg := Lib.hid hg
  have HT := Lib.hid (take_uint8 g r w h)
  obtain ⟨x, hx⟩ : ∃ x, tk .u8 (r.take 1).1 = x := ⟨_, rfl⟩
  obtain ⟨r2, hr2⟩ : ∃ r2, (r.take 1).2 = r2 := ⟨_, rfl⟩
  rw [hx, hr2] at HT
  rw [hx, hr2]
  clear hF hg ho hx hr2
  go_enter Tryz.func176, Tryz.ntmps176
  go_wp2_with fail
  refine (HF.out _ _).mono ?_
  rintro e w5 ⟨rfl, rfl⟩
  go_wp2_with fail
  refine (HT.out).mono ?_
  rintro e w6 ⟨rfl, hred⟩
  have hgm := (Hg.out).chg hred.2 n2
  have f6 := hgm.frozen off
  have c6 := keepC hred.2 n2 c0
  go_wp2_with fail
  go_end0
  refine ⟨rfl, ⟨hred.1.blk.far (Ne.symm n2) _, hred.1.le, hred.1.len⟩, hgm.set_ off _, (hred.2.mono (S' := fun k => k = g ∨ k = gm) (fun k _ hk => .inl hk)).setCell (p := ⟨gm, off, none⟩) (.inl (.inr rfl)) _⟩
end Go.Proofs.YthkfcfkkamffpaaGreat
