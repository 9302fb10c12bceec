/-
  Layer 27: the functions of a head and of an entry (lay, take, copy, may).
-/
import Derived.Test.YthkfcfkkamffpaaGreatWc
import Derived.Test.YthkfcfkkamffpaaGreatEach
namespace Go.Proofs.YthkfcfkkamffpaaGreat
open Go.RowKit
set_option linter.unusedVariables false
set_option linter.unusedSimpArgs false
open Wm (M Fd)

theorem ld_dig (v : Value) : Instr.loadAt 27 v = ldAgg 27 v := rfl
theorem st_dig (v x : Value) : Instr.storeAt 27 v x = stAgg 27 v x := rfl
theorem ld_head (v : Value) : Instr.loadAt 29 v = ldAgg 29 v := rfl
theorem st_head (v x : Value) : Instr.storeAt 29 v x = stAgg 29 v x := rfl
theorem ld_entry (v : Value) : Instr.loadAt 31 v = ldAgg 31 v := rfl
theorem st_entry (v x : Value) : Instr.storeAt 31 v x = stAgg 31 v x := rfl
attribute [local go_sem ↓] ld_dig st_dig ld_head st_head ld_entry st_entry
theorem info_head : (Tryz.prog.info? 29).map (·.size) = some 33 := by kernel_rfl
theorem info_entry : (Tryz.prog.info? 31).map (·.size) = some 35 := by kernel_rfl
theorem info_dig : (Tryz.prog.info? 27).map (·.size) = some 32 := by kernel_rfl

/-- the function F tells a message's number at a cell -/
structure Gets (F : FuncId) (off : Nat) : Prop where
  run : ∀ (args : Array Value) (w : World), (callFunc F args).run Tryz.prog w = .ok (.enter F args) w
  calls : ∀ (gm : Nat) (n : Int) (w : World), w.cell? ⟨gm, off, none⟩ = some (.int .i64 n) → Calls Tryz.prog F #[pt gm] w fun e w' => e = .returned (.int .i64 n) ∧ w = w'
/-- the function F lays a number at a message's cell -/
structure Sets (F : FuncId) (off : Nat) : Prop where
  run : ∀ (args : Array Value) (w : World), (callFunc F args).run Tryz.prog w = .ok (.enter F args) w
  calls : ∀ (gm : Nat) (n : Int) (cs : Array Value) (w : World), Blk w gm 36 cs → off < cs.size → Calls Tryz.prog F #[pt gm, .int .i64 n] w fun e w' => e = .returned (.tuple #[]) ∧ w' = w.setCell ⟨gm, off, none⟩ (.int .i64 n)

set_option maxHeartbeats 2000000 in
set_option maxRecDepth 100000 in
theorem small_lay (F : FuncId) (off : Nat) (hF : Gets F off) (g gm b0 : Nat) (n : Int) (v : Value) (xs : List UInt8) (w : World) (h : IsW w g v xs) (hb0 : w.cell? ⟨b0, 0, none⟩ = some (fn0 F)) (hx : w.cell? ⟨gm, off, none⟩ = some (.int .i64 n)) (h0 : 0 ≤ n) (h1 : I64 n) (hroom : xs.length + (Pk.free n.toNat).length ≤ 1000000000) :
    Calls Tryz.prog 145 #[pt g, pt gm, pt b0] w fun e w' => e = .returned (.tuple #[]) ∧ Wrote w w' g v (xs ++ Pk.free n.toNat) := by
  have hrun := hF.run
  have HF := Lib.hid (hF.calls gm n w hx)
  obtain ⟨k, rfl⟩ := Int.eq_ofNat_of_zero_le h0
  rw [Int.toNat_natCast] at hroom ⊢
  have hU : U64 k := by unfold I64 at h1; unfold U64; omega
  have hcv : IntKind.u64.wrap (k : Int) = (k : Int) := by rw [IntKind.wrap_u64]; unfold U64 at hU; omega
  have HT := Lib.hid (free_calls g k v xs w h hU (by omega))
  clear hF hroom h0 h1 hU
  go_enter Tryz.func145, Tryz.ntmps145
  go_wp2_with fail
  refine (HF.out).mono ?_
  rintro e w5 ⟨rfl, rfl⟩
  go_wp2_with fail
  refine HT.out.mono ?_
  rintro e w6 ⟨rfl, hw⟩
  go_wp2_with fail
  go_end0
  exact ⟨rfl, hw⟩

theorem rfree_most (r : Pk.Rd) (most : Nat) : (r.free most).1 ≤ most := by
  unfold Pk.Rd.free
  split
  · exact Nat.zero_le _
  split
  · exact Nat.zero_le _
  · split
    · exact Nat.zero_le _
    · show _ ≤ most
      omega

set_option maxHeartbeats 2000000 in
set_option maxRecDepth 100000 in
theorem small_take (F G : FuncId) (off : Nat) (hG : Sets G off) (g gm b1 b3 : Nat) (most : Nat) (r : Pk.Rd) (cs : Array Value) (w : World) (h : IsR w g r) (hm : most ≤ 65535) (hb1 : w.cell? ⟨b1, 0, none⟩ = some (fn0 G)) (hb3 : w.cell? ⟨b3, 0, none⟩ = some (.int .i64 most)) (hg : Blk w gm 36 cs) (ho : off < cs.size)
    (n0 : b1 ≠ g) (n1 : b3 ≠ g) (n2 : gm ≠ g) (n3 : b1 ≠ gm) (n4 : b3 ≠ gm) :
    Calls Tryz.prog 146 #[pt g, pt gm, pt b1, pt b3] w fun e w' => e = .returned (.tuple #[]) ∧ IsR w' g (r.free most).2 ∧ Blk w' gm 36 (cs.setIfInBounds off (.int .i64 (r.free most).1)) ∧ Chg (fun k => k = g ∨ k = gm) w w' := by
  have hrun := hG.run
  have HG := Lib.hid hG.calls
  have Hg := Lib.hid hg
  have Ho := Lib.hid ho
  have hd : IsR w.drew g r := ⟨h.blk.drew, h.le, h.len⟩
  have hle := rfree_most r most
  have HT := Lib.hid (rfree_callsI g (most : Int) most r w.drew rfl hd)
  obtain ⟨x, hx⟩ : ∃ x, (r.free most).1 = x := ⟨_, rfl⟩
  obtain ⟨r2, hr2⟩ : ∃ r2, (r.free most).2 = r2 := ⟨_, rfl⟩
  rw [hx, hr2] at HT
  rw [hx] at hle
  rw [hx, hr2]
  have e1 : IntKind.u64.wrap (most : Int) = (most : Int) := by rw [IntKind.wrap_u64]; omega
  have e2 : IntKind.i64.wrap (x : Int) = (x : Int) := IntWalk.i64_in _ (by omega)
  clear hG hg ho hx hr2
  go_enter Tryz.func146, Tryz.ntmps146
  go_wp2_with fail
  go_region_held3 (fun w' => w'.cell? ⟨b1, 0, none⟩ = some (fn0 G) ∧ w'.cell? ⟨b3, 0, none⟩ = some (.int .i64 most)) (first | exact ⟨hb1, hb3⟩ | exact ⟨k0, k1⟩ | exact ⟨(World.cell?_setCell_other _ _ _ _ (fun e => by have := congrArg Addr.block e; simp at this; omega)).trans k0, (World.cell?_setCell_other _ _ _ _ (fun e => by have := congrArg Addr.block e; simp at this; omega)).trans k1⟩ | go_keep)
    (first
      | (go_at_call 120; refine (HT.out).mono ?_; rintro e w6 ⟨rfl, hred⟩; have k0 := keepC hred.2 n0 (show w.drew.cell? ⟨b1, 0, none⟩ = _ from hb1); have k1 := keepC hred.2 n1 (show w.drew.cell? ⟨b3, 0, none⟩ = _ from hb3); have hgm := ((Hg.out).drew).chg hred.2 n2)
      | ((with_reducible refine (HG.out _ _ _ _ hgm (Ho.out)).mono ?_); rintro e w7 ⟨rfl, rfl⟩))
  all_goals
    go_wp2_with fail
    go_end0
    refine ⟨rfl, ⟨hred.1.blk.far (Ne.symm n2) _, hred.1.le, hred.1.len⟩, hgm.set_ off _, ((Chg.refl (fun k => k = g ∨ k = gm) w).drew.trans (hred.2.mono (S' := fun k => k = g ∨ k = gm) (fun k _ hk => .inl hk))).setCell (p := ⟨gm, off, none⟩) (.inl (.inr rfl)) _⟩

set_option maxHeartbeats 2000000 in
set_option maxRecDepth 100000 in
theorem small_copy (F G : FuncId) (off : Nat) (hF : Gets F off) (hG : Sets G off) (go gm b0 b1 : Nat) (n : Int) (cs : Array Value) (w : World) (hb0 : w.cell? ⟨b0, 0, none⟩ = some (fn0 F)) (hb1 : w.cell? ⟨b1, 0, none⟩ = some (fn0 G)) (hx : w.cell? ⟨gm, off, none⟩ = some (.int .i64 n)) (hg : Blk w go 36 cs) (ho : off < cs.size)
    (n0 : b0 ≠ go) (n1 : b1 ≠ go) :
    Calls Tryz.prog 147 #[pt go, pt gm, pt b1, pt b0] w fun e w' => e = .returned (.tuple #[]) ∧ Blk w' go 36 (cs.setIfInBounds off (.int .i64 n)) ∧ Chg (fun k => k = go) w w' := by
  have hrunF := hF.run
  have hrunG := hG.run
  have HF := Lib.hid (hF.calls gm n w.drew hx)
  have HG := Lib.hid (hG.calls go n cs w.drew hg.drew ho)
  have Hg := Lib.hid hg
  clear hF hG hg ho
  go_enter Tryz.func147, Tryz.ntmps147
  go_wp2_with fail
  go_region_held3 (fun w' => w'.cell? ⟨b0, 0, none⟩ = some (fn0 F) ∧ w'.cell? ⟨b1, 0, none⟩ = some (fn0 G)) (first | exact ⟨hb0, hb1⟩ | exact ⟨(World.cell?_setCell_other _ _ _ _ (fun e => by have := congrArg Addr.block e; simp at this; omega)).trans hb0, (World.cell?_setCell_other _ _ _ _ (fun e => by have := congrArg Addr.block e; simp at this; omega)).trans hb1⟩ | go_keep)
    (first
      | ((with_reducible refine (HF.out).mono ?_); rintro e w7 ⟨rfl, rfl⟩)
      | ((with_reducible refine (HG.out).mono ?_); rintro e w7 ⟨rfl, rfl⟩))
  all_goals
    go_wp2_with fail
    go_end0
    exact ⟨rfl, ((Hg.out).set_ off _).drew, ((Chg.refl (fun k => k = go) w).setCell (p := ⟨go, off, none⟩) (.inl rfl) _).drew⟩

set_option maxHeartbeats 2000000 in
set_option maxRecDepth 100000 in
theorem small_may (F : FuncId) (off : Nat) (hF : Gets F off) (gm b0 b2 b3 : Nat) (n lo hi : Int) (w : World) (hb0 : w.cell? ⟨b0, 0, none⟩ = some (fn0 F)) (hb2 : w.cell? ⟨b2, 0, none⟩ = some (.int .i64 lo)) (hb3 : w.cell? ⟨b3, 0, none⟩ = some (.int .i64 hi)) (hx : w.cell? ⟨gm, off, none⟩ = some (.int .i64 n)) :
    Calls Tryz.prog 148 #[pt gm, pt b0, pt b2, pt b3] w fun e w' => e = .returned (.bool (decide (lo ≤ n ∧ n ≤ hi))) ∧ Chg (fun _ => False) w w' := by
  have hrunF := hF.run
  have HF := Lib.hid (fun w (h : w.cell? ⟨gm, off, none⟩ = some (.int .i64 n)) => (hF.calls gm n w h).mono fun _ _ ⟨h1, h2⟩ => (⟨h1, h2.symm⟩ : _ ∧ _))
  clear hF
  by_cases h1 : lo ≤ n
  · have d1 : decide (lo ≤ n) = true := decide_eq_true h1
    have e : decide (lo ≤ n ∧ n ≤ hi) = decide (n ≤ hi) := by simp [h1]
    rw [e]
    clear e
    go_enter Tryz.func148, Tryz.ntmps148
    go_wp2_with fail
    go_quiet ((exact Calls.quiet_of_same ((HF.out) _ hx)))
    go_wp2_with fail
    go_ret
    exact ⟨rfl, (Chg.refl _ w).drewN _⟩
  · have d1 : decide (lo ≤ n) = false := decide_eq_false h1
    have e : decide (lo ≤ n ∧ n ≤ hi) = false := by simp [h1]
    rw [e]
    clear e h1
    go_enter Tryz.func148, Tryz.ntmps148
    go_wp2_with fail
    go_quiet ((exact Calls.quiet_of_same ((HF.out) _ hx)))
    go_wp2_with fail
    go_ret
    exact ⟨rfl, (Chg.refl _ w).drewN _⟩

theorem wd32 : wd 32 = 32 := rfl
theorem bysz (d : List UInt8) (h : d.length = 32) : (bys d).toArray.size = 32 := by simp [bys, h]
set_option maxHeartbeats 2000000 in
set_option maxRecDepth 100000 in
theorem layDigest_calls (g : Nat) (d : List UInt8) (v : Value) (xs : List UInt8) (w : World) (h : IsW w g v xs) (hd : d.length = 32) (hroom : xs.length ≤ 1000000000) :
    Calls Tryz.prog 154 #[pt g, .agg (bys d).toArray] w fun e w' => e = .returned (.tuple #[]) ∧ Wrote w w' g v (xs ++ d) := by
  have hb := Blk.new w 27 (bys d).toArray
  have hld := ldAgg_of (P := Tryz.prog) (t := 27) (w := w.alloc (.cells (bys d).toArray 27)) (g := w.heap.size) (off := 0) (cs := (bys d).toArray) Tryz.underlying27 rfl (by rw [bysz d hd]; exact info_dig) (fun j v hv => by rw [Nat.zero_add, hb.cell]; exact hv)
  have HT := Lib.hid (wdigest_calls g 32 d v xs _ (h := (⟨h.blk.alloc (.cells (bys d).toArray 27), h.own.alloc (.cells (bys d).toArray 27)⟩ : IsW _ g v xs)) hd (by omega))
  have e : d.take (wd 32) = d := by rw [wd32, List.take_of_length_le (by omega)]
  rw [e] at HT
  clear hd hb hroom
  go_enter Tryz.func154, Tryz.ntmps154
  go_wp2_with fail
  refine HT.out.mono ?_
  rintro e w6 ⟨rfl, v2, h2, hc2, hv2⟩
  go_wp2_with fail
  go_end0
  refine ⟨rfl, v2, h2, ((Chg.refl _ w).alloc _).trans hc2, fun k hk => ?_⟩
  rcases hv2 k hk with h | h
  · exact .inl h
  · right; simp at h; omega
end Go.Proofs.YthkfcfkkamffpaaGreat
namespace Go.Proofs.YthkfcfkkamffpaaGreat
open Go.RowKit
set_option linter.unusedVariables false
set_option linter.unusedSimpArgs false
open Wm (M Fd)
attribute [local go_sem ↓] ld_dig st_dig ld_head st_head ld_entry st_entry

theorem over_head (m : M) (L : Ls) (hd : Dg m) (x : List UInt8) (hx : x.length = 32) (n : Nat) : over (mcells m L) 11 (.int .u64 n :: bys x) = mcells { m with hsize := n, hlog := x } L := by
  have hh : (bys m.hlog).length = 32 := by rw [bys_length]; exact hd.h
  have hxx : (bys x).length = 32 := by rw [bys_length]; exact hx
  unfold over mcells
  rw [List.length_cons, hxx]
  have e1 : (mc m L).take 11 = [.int .u8 m.kind, .int .u32 m.id, .int .i64 m.code, S m.key, S m.to, S m.val, .int .i64 m.limit, .int .u64 m.frm, .int .u64 m.size, .bool m.found, .bool m.more] := rfl
  have e2 : (mc m L).drop (11 + (32 + 1)) = .int .u64 m.ever :: (bys m.esum ++ tailC m L) := by
    rw [show 11 + (32 + 1) = 32 + 12 from rfl]
    show (bys m.hlog ++ (.int .u64 m.ever :: (bys m.esum ++ tailC m L))).drop 32 = _
    rw [List.drop_append_of_le_length (by omega), List.drop_of_length_le (by omega)]
    rfl
  simp only [List.toList_toArray, e1, e2]
  rfl
def ecells (v : Nat) (s : List UInt8) (c : Nat) (n : List UInt8) : List Value := .int .u64 v :: (bys s ++ [.int .u64 c, S n])
theorem over_entry (m : M) (L : Ls) (hd : Dg m) (v : Nat) (s : List UInt8) (c : Nat) (n : List UInt8) (hs : s.length = 32) : over (mcells m L) 44 (ecells v s c n) = mcells { m with ever := v, esum := s, ecnt := c, enote := n } L := by
  have hh : (bys m.hlog).length = 32 := by rw [bys_length]; exact hd.h
  have he : (bys m.esum).length = 32 := by rw [bys_length]; exact hd.e
  have hss : (bys s).length = 32 := by rw [bys_length]; exact hs
  have hl : (ecells v s c n).length = 35 := by simp [ecells, hss]
  unfold over mcells
  rw [hl]
  have e1 : (mc m L).take 44 = .int .u8 m.kind :: .int .u32 m.id :: .int .i64 m.code :: S m.key :: S m.to :: S m.val :: .int .i64 m.limit :: .int .u64 m.frm :: .int .u64 m.size :: .bool m.found :: .bool m.more :: .int .u64 m.hsize :: bys m.hlog := by
    show _ :: _ :: _ :: _ :: _ :: _ :: _ :: _ :: _ :: _ :: _ :: _ :: (bys m.hlog ++ (.int .u64 m.ever :: (bys m.esum ++ tailC m L))).take 32 = _
    rw [List.take_append, hh, List.take_of_length_le (by omega)]
    simp
  have e2 : (mc m L).drop (44 + 35) = [L.t, L.s, L.p, L.y, S m.bytes] := by
    rw [show 44 + 35 = 67 + 12 from rfl]
    show (bys m.hlog ++ (.int .u64 m.ever :: (bys m.esum ++ tailC m L))).drop 67 = _
    rw [List.drop_append, List.drop_of_length_le (by omega), hh, List.nil_append, show 67 - 32 = 34 + 1 from rfl, List.drop_succ_cons, List.drop_append, List.drop_of_length_le (by omega), he]
    rfl
  simp only [List.toList_toArray, e1, e2]
  simp [mc, ecells]
  rfl
/-- a digest read: as many bytes as there were, noughts behind -/
theorem ld_mid (w : World) (g off : Nat) (d : List UInt8) (hd : d.length = 32) (hc : ∀ j v, (bys d)[j]? = some v → w.cell? ⟨g, off + j, none⟩ = some v) : (ldAgg 27 (.pointer (some ⟨g, off, none⟩))).run Tryz.prog w = .ok (.agg (bys d).toArray) w :=
  ldAgg_of (cs := (bys d).toArray) Tryz.underlying27 rfl (by rw [bysz d hd]; exact info_dig) (fun j v hv => hc j v (by simpa using hv))
theorem one_bys (d : List UInt8) : (bys d).toArray.all (·.oneCell') = true := by
  rw [Array.all_eq_true_iff_forall_mem]
  intro v hv
  exact bys_one _ v (by simpa using hv)
theorem st_mid (w : World) (g off : Nat) (T : TypeId) (cur : Array Value) (d : List UInt8) (hd : d.length = 32) (hb : Blk w g T cur) (hl : off + 32 ≤ cur.size) : (stAgg 27 (.pointer (some ⟨g, off, none⟩)) (.agg (bys d).toArray)).run Tryz.prog w = .ok () (w.setRow g (over cur off (bys d))) := by
  have := stAgg_of (P := Tryz.prog) (t := 27) (off := off) (cs := (bys d).toArray) hb (by rw [bysz d hd]; exact info_dig) (by rw [bysz d hd]; exact hl) (one_bys d)
  rw [this]
  unfold over
  simp [bys, hd]
theorem over_all (d x : List UInt8) (hd : d.length = 32) (hx : x.length = 32) : over (bys d).toArray 0 (bys x) = (bys x).toArray := by
  unfold over
  have h1 : (bys d).length = 32 := by rw [bys_length]; exact hd
  have h2 : (bys x).length = 32 := by rw [bys_length]; exact hx
  rw [h2, List.drop_of_length_le (by simp [h1])]
  simp
theorem dgc_bys : dgc [] 0 = (bys (List.replicate 32 0)).toArray := by unfold dgc; rfl

set_option maxHeartbeats 2000000 in
set_option maxRecDepth 100000 in
theorem takeDigest_calls (g : Nat) (r : Pk.Rd) (w : World) (h : IsR w g r) :
    Calls Tryz.prog 156 #[pt g] w fun e w' => e = .returned (.agg (bys (dig (r.raw 32).1)).toArray) ∧ IsR w' g (r.raw 32).2 ∧ Chg (fun k => k = g) w w' := by
  have hlg := h.blk.lt
  have HT := Lib.hid (rdigest_calls g 32 r _ (h.alloc (.cells (dgc [] 0) 27)))
  rw [show ((wd 32 : Nat) : Int) = 32 from rfl] at HT
  have hb := Blk.new w 27 (dgc [] 0)
  have hdl := dig_length (r.raw 32).1
  obtain ⟨x, hx⟩ : ∃ x, dig (r.raw 32).1 = x := ⟨_, rfl⟩
  obtain ⟨r2, hr2⟩ : ∃ r2, (r.raw 32).2 = r2 := ⟨_, rfl⟩
  rw [hx, hr2] at HT
  rw [hx] at hdl
  rw [hx, hr2]
  clear hx hr2
  go_enter Tryz.func156, Tryz.ntmps156
  go_wp2_with fail
  refine HT.out.mono ?_
  rintro e w6 ⟨rfl, hred⟩
  have hb6 := hb.chg hred.2 (fun e => by omega)
  have hst := st_mid w6 w.heap.size 0 27 (dgc [] 0) x hdl hb6 (by decide)
  rw [dgc_bys, over_all _ _ (by simp) hdl] at hst
  have Hdl := Lib.hid hdl
  have Hb6 := Lib.hid hb6
  clear hdl hb6 hb
  go_wp2_with fail
  refine bodyPost_ret (results_cell_row rfl _ _ w.heap.size 27 (bys x).toArray (0, 0) _ rfl (Blk.setRow Hb6.out _) Tryz.underlying27 rfl (by rw [bysz x Hdl.out]; exact info_dig)) rfl ?_
  refine ⟨rfl, ⟨hred.1.blk.setRow_far (by omega) _, hred.1.le, hred.1.len⟩, (((Chg.refl (fun k => k = g) w).alloc _).trans hred.2).setRow (.inr (Nat.le_refl _)) _⟩
end Go.Proofs.YthkfcfkkamffpaaGreat
namespace Go.Proofs.YthkfcfkkamffpaaGreat
open Go.RowKit
set_option linter.unusedVariables false
set_option linter.unusedSimpArgs false
open Wm (M Fd)
attribute [local go_sem ↓] ld_dig st_dig ld_head st_head ld_entry st_entry

/-- a writer and a message apart from it, behind some writing -/
theorem apart_then {w w1 : World} {g gm : Nat} {v v1 : Value} {m : M} {L : Ls} (hm : IsM w gm m L) (n1 : gm ≠ g) (n2 : v.ownBlock ≠ some gm) (hc : Chg (fun k => k = g ∨ v.ownBlock = some k) w w1) (hv : ∀ k, v1.ownBlock = some k → v.ownBlock = some k ∨ w.heap.size ≤ k) :
    IsM w1 gm m L ∧ v1.ownBlock ≠ some gm := by
  refine ⟨hm.chg hc (fun h => by rcases h with h | h; exact n1 h; exact n2 h), fun h => ?_⟩
  rcases hv gm h with h | h
  · exact n2 h
  · have := hm.lt; omega

set_option maxHeartbeats 2000000 in
set_option maxRecDepth 100000 in
theorem head_lay (g gm : Nat) (m : M) (L : Ls) (v : Value) (xs : List UInt8) (w : World) (h : IsW w g v xs) (hm : IsM w gm m L) (hd : Dg m) (hU : U64 m.hsize) (n1 : gm ≠ g) (n2 : v.ownBlock ≠ some gm) (hroom : xs.length + 100 ≤ 1000000000) :
    Calls Tryz.prog 153 #[pt g, pt gm] w fun e w' => e = .returned (.tuple #[]) ∧ Wrote w w' g v (xs ++ (Pk.free m.hsize ++ m.hlog)) := by
  have hf := hm.mf hd
  have c11 := hf.hsize
  have hfl : (Pk.free m.hsize).length ≤ 10 := Pk.free_length_ten hU
  have H1 := Lib.hid (free_calls g m.hsize v xs w h hU (by omega))
  have Hm := Lib.hid hm
  have Hd := Lib.hid hd
  clear hf hm hd hU
  go_enter Tryz.func153, Tryz.ntmps153
  go_wp2_with fail
  refine H1.out.mono ?_
  rintro e w1 ⟨rfl, v1, h1, hc1, hv1⟩
  obtain ⟨hm1, n3⟩ := apart_then Hm.out n1 n2 hc1 hv1
  have hld := ld_mid w1 gm 12 m.hlog Hd.out.h (hm1.mf Hd.out).hlog
  have H2 := Lib.hid (layDigest_calls g m.hlog v1 _ w1 h1 Hd.out.h (by rw [List.length_append]; omega))
  clear hm1
  go_wp2_with fail
  refine H2.out.mono ?_
  rintro e w2 ⟨rfl, hw2⟩
  go_wp2_with fail
  go_end0
  rw [← List.append_assoc]
  exact ⟨rfl, wrote_then hc1 hv1 hw2⟩

set_option maxHeartbeats 2000000 in
set_option maxRecDepth 100000 in
theorem entry_lay (g gm : Nat) (m : M) (L : Ls) (v : Value) (xs : List UInt8) (w : World) (h : IsW w g v xs) (hm : IsM w gm m L) (hd : Dg m) (hU : U64 m.ever) (hU2 : U64 m.ecnt) (hn : m.enote.length ≤ 1000000) (n1 : gm ≠ g) (n2 : v.ownBlock ≠ some gm) (hroom : xs.length + 100 + m.enote.length ≤ 1000000000) :
    Calls Tryz.prog 158 #[pt g, pt gm] w fun e w' => e = .returned (.tuple #[]) ∧ Wrote w w' g v (xs ++ (Pk.free m.ever ++ (Pk.free m.ecnt ++ (m.esum ++ (Pk.free m.enote.length ++ m.enote))))) := by
  have c44 := (hm.mf hd).ever
  have hfl : (Pk.free m.ever).length ≤ 10 := Pk.free_length_ten hU
  have hfl2 : (Pk.free m.ecnt).length ≤ 10 := Pk.free_length_ten hU2
  have hfl3 : (Pk.free m.enote.length).length ≤ 10 := Pk.free_length_ten (by omega)
  have hel := hd.e
  have H1 := Lib.hid (free_calls g m.ever v xs w h hU (by omega))
  have Hm := Lib.hid hm
  have Hd := Lib.hid hd
  have HU2 := Lib.hid hU2
  have Hel := Lib.hid hel
  clear hm hd hU hU2 hel
  go_enter Tryz.func158, Tryz.ntmps158
  go_wp2_with fail
  refine H1.out.mono ?_
  rintro e w1 ⟨rfl, v1, h1, hc1, hv1⟩
  obtain ⟨hm1, n3⟩ := apart_then Hm.out n1 n2 hc1 hv1
  have c77 := (hm1.mf Hd.out).ecnt
  have H2 := Lib.hid (free_calls g m.ecnt v1 _ w1 h1 HU2.out (by rw [List.length_append]; omega))
  have Hm1 := Lib.hid hm1
  clear hm1
  go_wp2_with fail
  refine H2.out.mono ?_
  rintro e w2 ⟨rfl, v2, h2, hc2, hv2⟩
  obtain ⟨hm2, n4⟩ := apart_then Hm1.out n1 n3 hc2 hv2
  have hld := ld_mid w2 gm 45 m.esum Hd.out.e (hm2.mf Hd.out).esum
  have H3 := Lib.hid (layDigest_calls g m.esum v2 _ w2 h2 Hd.out.e (by rw [List.length_append, List.length_append]; omega))
  have Hm2 := Lib.hid hm2
  clear hm2
  go_wp2_with fail
  refine H3.out.mono ?_
  rintro e w3 ⟨rfl, v3, h3, hc3, hv3⟩
  obtain ⟨hm3, n5⟩ := apart_then Hm2.out n1 n4 hc3 hv3
  have c78 := (hm3.mf Hd.out).enote
  have H4 := Lib.hid (text_calls g m.enote v3 _ w3 h3 (by have := Hel.out; simp only [List.length_append]; omega))
  clear hm3
  go_wp2_with fail
  refine H4.out.mono ?_
  rintro e w4 ⟨rfl, hw4⟩
  go_wp2_with fail
  go_end0
  refine ⟨rfl, ?_⟩
  have k3 := wrote_then hc3 hv3 hw4
  have k2 := wrote_then hc2 hv2 k3
  have k1 := wrote_then hc1 hv1 k2
  simpa only [List.append_assoc] using k1

set_option maxHeartbeats 2000000 in
set_option maxRecDepth 100000 in
theorem entry_may (gm : Nat) (m : M) (L : Ls) (w : World) (hm : IsM w gm m L) (hd : Dg m) (hn : m.enote.length ≤ 1000000000) :
    Calls Tryz.prog 161 #[pt gm] w fun e w' => e = .returned (.bool (decide (m.enote.length ≤ 32))) ∧ Chg (fun _ => False) w w' := by
  have c78 := (hm.mf hd).enote
  clear hm hd
  go_enter Tryz.func161, Tryz.ntmps161
  go_wp2_with fail
  go_ret
  refine ⟨ret_bool ?_, Chg.refl _ _⟩
  first | rfl | (rw [Bool.eq_iff_iff]; simp; omega)

theorem ld_hd (w : World) (g : Nat) (m : M) (L : Ls) (hd : Dg m) (hm : MF w g m L) : (ldAgg 29 (.pointer (some ⟨g, 11, none⟩))).run Tryz.prog w = .ok (.agg (Value.int .u64 m.hsize :: bys m.hlog).toArray) w :=
  ldAgg_of (cs := (Value.int .u64 m.hsize :: bys m.hlog).toArray) Tryz.underlying29 rfl (by rw [show (Value.int .u64 m.hsize :: bys m.hlog).toArray.size = 33 by simp [bys, hd.h]]; exact info_head) (fun j v hv => by
    cases j with
    | zero => simp at hv; subst hv; exact hm.hsize
    | succ j => rw [show 11 + (j + 1) = 12 + j by omega]; exact hm.hlog j v (by simpa using hv))
theorem st_hd (w : World) (g : Nat) (T : TypeId) (cur : Array Value) (n : Nat) (d : List UInt8) (hd : d.length = 32) (hb : Blk w g T cur) (hl : cur.size = 84) : (stAgg 29 (.pointer (some ⟨g, 11, none⟩)) (.agg (Value.int .u64 n :: bys d).toArray)).run Tryz.prog w = .ok () (w.setRow g (over cur 11 (.int .u64 n :: bys d))) := by
  have := stAgg_of (P := Tryz.prog) (t := 29) (off := 11) (cs := (Value.int .u64 n :: bys d).toArray) hb (by rw [show (Value.int .u64 n :: bys d).toArray.size = 33 by simp [bys, hd]]; exact info_head) (by simp [bys, hd, hl]) (by
    rw [Array.all_eq_true_iff_forall_mem]
    intro v hv
    rcases List.mem_cons.1 (by simpa using hv : v ∈ Value.int .u64 n :: bys d) with h | h
    · subst h; rfl
    · exact bys_one _ v h)
  rw [this]
  unfold over
  simp [bys, hd]
theorem ld_en (w : World) (g : Nat) (m : M) (L : Ls) (hd : Dg m) (hm : MF w g m L) : (ldAgg 31 (.pointer (some ⟨g, 44, none⟩))).run Tryz.prog w = .ok (.agg (ecells m.ever m.esum m.ecnt m.enote).toArray) w := by
  have he : (bys m.esum).length = 32 := by rw [bys_length]; exact hd.e
  refine ldAgg_of (cs := (ecells m.ever m.esum m.ecnt m.enote).toArray) Tryz.underlying31 rfl (by rw [show (ecells m.ever m.esum m.ecnt m.enote).toArray.size = 35 by simp [ecells, he]]; exact info_entry) (fun j v hv => ?_)
  have hv : (ecells m.ever m.esum m.ecnt m.enote)[j]? = some v := by simpa using hv
  have hj : j < 35 := by have := (List.getElem?_eq_some_iff.1 hv).1; simpa [ecells, he] using this
  cases j with
  | zero => simp [ecells] at hv; subst hv; exact hm.ever
  | succ j =>
    rw [show 44 + (j + 1) = 45 + j by omega]
    simp only [ecells, List.getElem?_cons_succ] at hv
    rcases Nat.lt_or_ge j 32 with h | h
    · rw [List.getElem?_append_left (by omega)] at hv
      exact hm.esum j v hv
    · rw [List.getElem?_append_right (by omega), he] at hv
      rcases (show j = 32 ∨ j = 33 by omega) with rfl | rfl
      · simp at hv; subst hv; exact hm.ecnt
      · simp at hv; subst hv; exact hm.enote
theorem st_en (w : World) (g : Nat) (T : TypeId) (cur : Array Value) (v : Nat) (s : List UInt8) (c : Nat) (n : List UInt8) (hs : s.length = 32) (hb : Blk w g T cur) (hl : cur.size = 84) : (stAgg 31 (.pointer (some ⟨g, 44, none⟩)) (.agg (ecells v s c n).toArray)).run Tryz.prog w = .ok () (w.setRow g (over cur 44 (ecells v s c n))) := by
  have he : (bys s).length = 32 := by rw [bys_length]; exact hs
  have hl2 : (ecells v s c n).length = 35 := by simp [ecells, he]
  have := stAgg_of (P := Tryz.prog) (t := 31) (off := 44) (cs := (ecells v s c n).toArray) hb (by rw [show (ecells v s c n).toArray.size = 35 by simp [hl2]]; exact info_entry) (by simp [hl2, hl]) (by
    rw [Array.all_eq_true_iff_forall_mem]
    intro u hu
    have hu : u ∈ ecells v s c n := by simpa using hu
    unfold ecells at hu
    rcases List.mem_cons.1 hu with h | h
    · subst h; rfl
    · rcases List.mem_append.1 h with h | h
      · exact bys_one _ u h
      · simp at h; rcases h with rfl | rfl <;> rfl)
  rw [this]
  unfold over
  simp [hl2]
theorem IsM.setRow {w : World} {g : Nat} {m m' : M} {L L' : Ls} {cs : Array Value} (h : IsM w g m L) (e : cs = mcells m' L') : IsM (w.setRow g cs) g m' L' := by
  subst e; exact Blk.setRow h _

set_option maxHeartbeats 2000000 in
set_option maxRecDepth 100000 in
theorem head_copy (go gm : Nat) (n m : M) (K L : Ls) (w : World) (hg : IsM w go n K) (hm : IsM w gm m L) (hdn : Dg n) (hd : Dg m) :
    Calls Tryz.prog 157 #[pt go, pt gm] w fun e w' => e = .returned (.tuple #[]) ∧ IsM w' go { n with hsize := m.hsize, hlog := m.hlog } K ∧ Chg (fun k => k = go) w w' := by
  have hld := ld_hd w gm m L hd (hm.mf hd)
  have hst := st_hd w go 36 (mcells n K) m.hsize m.hlog hd.h hg (mc_len n K hdn)
  rw [over_head n K hdn m.hlog hd.h] at hst
  have Hg := Lib.hid hg
  clear hg hm hdn hd
  go_enter Tryz.func157, Tryz.ntmps157
  go_wp2_with fail
  go_end0
  exact ⟨rfl, (Hg.out).setRow rfl, (Chg.refl (fun k => k = go) w).setRow (.inl rfl) _⟩

set_option maxHeartbeats 2000000 in
set_option maxRecDepth 100000 in
theorem entry_copy (go gm : Nat) (n m : M) (K L : Ls) (w : World) (hg : IsM w go n K) (hm : IsM w gm m L) (hdn : Dg n) (hd : Dg m) :
    Calls Tryz.prog 160 #[pt go, pt gm] w fun e w' => e = .returned (.tuple #[]) ∧ IsM w' go { n with ever := m.ever, ecnt := m.ecnt, esum := m.esum, enote := m.enote } K ∧ Chg (fun k => k = go) w w' := by
  have hld := ld_en w gm m L hd (hm.mf hd)
  have hst := st_en w go 36 (mcells n K) m.ever m.esum m.ecnt m.enote hd.e hg (mc_len n K hdn)
  rw [over_entry n K hdn _ _ _ _ hd.e] at hst
  have Hg := Lib.hid hg
  clear hg hm hdn hd
  go_enter Tryz.func160, Tryz.ntmps160
  go_wp2_with fail
  go_end0
  exact ⟨rfl, (Hg.out).setRow rfl, (Chg.refl (fun k => k = go) w).setRow (.inl rfl) _⟩

def MAX : Nat := 18446744073709551615
set_option maxHeartbeats 2000000 in
set_option maxRecDepth 100000 in
theorem head_take (g gm : Nat) (m : M) (L : Ls) (r : Pk.Rd) (w : World) (h : IsR w g r) (hm : IsM w gm m L) (hd : Dg m) (n2 : gm ≠ g) :
    Calls Tryz.prog 155 #[pt g, pt gm] w fun e w' => e = .returned (.tuple #[]) ∧ IsR w' g ((r.free MAX).2.raw 32).2 ∧ IsM w' gm { m with hsize := (r.free MAX).1, hlog := dig ((r.free MAX).2.raw 32).1 } L ∧ Chg (fun k => k = g ∨ k = gm) w w' := by
  have H1 := Lib.hid (rfree_callsI g 18446744073709551615 MAX r w rfl h)
  obtain ⟨x, hx⟩ : ∃ x, (r.free MAX).1 = x := ⟨_, rfl⟩
  obtain ⟨r2, hr2⟩ : ∃ r2, (r.free MAX).2 = r2 := ⟨_, rfl⟩
  rw [hx, hr2] at H1
  rw [hx, hr2]
  have hdl := dig_length (r2.raw 32).1
  obtain ⟨y, hy⟩ : ∃ y, dig (r2.raw 32).1 = y := ⟨_, rfl⟩
  obtain ⟨r3, hr3⟩ : ∃ r3, (r2.raw 32).2 = r3 := ⟨_, rfl⟩
  rw [hy] at hdl
  rw [hy, hr3]
  have Hy := Lib.hid (And.intro hy hr3)
  have Hdl := Lib.hid hdl
  have Hm := Lib.hid hm
  have Hd := Lib.hid hd
  clear hm hd hx hr2 hy hr3 hdl
  go_enter Tryz.func155, Tryz.ntmps155
  go_wp2_with fail
  refine (H1.out).mono ?_
  rintro e w1 ⟨rfl, hr1, hc1⟩
  have hm1 := (Hm.out).chg hc1 n2
  have c11 := (hm1.mf Hd.out).hsize
  have f11 := hm1.frozen 11
  have hm2 : IsM (w1.setCell ⟨gm, 11, none⟩ (.int .u64 x)) gm { m with hsize := x } L := by
    have := Blk.set_ hm1 11 (.int .u64 x)
    rw [set_hsize] at this
    exact this
  have hr2 : IsR (w1.setCell ⟨gm, 11, none⟩ (.int .u64 x)) g r2 := ⟨hr1.blk.far (Ne.symm n2) _, hr1.le, hr1.len⟩
  have h2' := takeDigest_calls g r2 _ hr2
  rw [(Hy.out).1, (Hy.out).2] at h2'
  have H2 := Lib.hid h2'
  have Hm2 := Lib.hid hm2
  have Hc1 := Lib.hid hc1
  clear hm1 hm2 hr1 hr2 hc1 h2'
  go_wp2_with fail
  refine (H2.out).mono ?_
  rintro e w3 ⟨rfl, hr3, hc3⟩
  have hm3 := (Hm2.out).chg hc3 n2
  have hd3 : Dg { m with hsize := x } := ⟨(Hd.out).h, (Hd.out).e⟩
  have hst := st_mid w3 gm 12 36 (mcells { m with hsize := x } L) y Hdl.out hm3 (by rw [mc_len _ _ hd3]; omega)
  rw [over_hlog _ _ hd3 _ Hdl.out] at hst
  have Hm3 := Lib.hid hm3
  clear hm3 hd3
  go_wp2_with fail
  go_end0
  refine ⟨rfl, ⟨hr3.blk.setRow_far (Ne.symm n2) _, hr3.le, hr3.len⟩, (Hm3.out).setRow rfl, ?_⟩
  have e1 := ((Hc1.out).mono (S' := fun k => k = g ∨ k = gm) (fun k _ hk => .inl hk)).setCell (p := ⟨gm, 11, none⟩) (.inl (.inr rfl)) (.int .u64 x)
  exact (e1.trans (hc3.mono (S' := fun k => k = g ∨ k = gm) (fun k _ hk => .inl hk))).setRow (.inl (.inr rfl)) _

set_option maxHeartbeats 4000000 in
set_option maxRecDepth 100000 in
theorem entry_take (g gm : Nat) (m : M) (L : Ls) (r : Pk.Rd) (w : World) (h : IsR w g r) (hm : IsM w gm m L) (hd : Dg m) (n2 : gm ≠ g) :
    Calls Tryz.prog 159 #[pt g, pt gm] w fun e w' => e = .returned (.tuple #[]) ∧ IsR w' g ((((r.free MAX).2.free MAX).2.raw 32).2.text 32).2 ∧
      IsM w' gm { m with ever := (r.free MAX).1, ecnt := ((r.free MAX).2.free MAX).1, esum := dig (((r.free MAX).2.free MAX).2.raw 32).1, enote := ((((r.free MAX).2.free MAX).2.raw 32).2.text 32).1 } L ∧ Chg (fun k => k = g ∨ k = gm) w w' := by
  have H1 := Lib.hid (rfree_callsI g 18446744073709551615 MAX r w rfl h)
  obtain ⟨x, hx⟩ : ∃ x, (r.free MAX).1 = x := ⟨_, rfl⟩
  obtain ⟨r1, hr1⟩ : ∃ r2, (r.free MAX).2 = r2 := ⟨_, rfl⟩
  rw [hx, hr1] at H1
  rw [hx, hr1]
  obtain ⟨y, hy⟩ : ∃ y, (r1.free MAX).1 = y := ⟨_, rfl⟩
  obtain ⟨r3, hr3⟩ : ∃ r2, (r1.free MAX).2 = r2 := ⟨_, rfl⟩
  rw [hy, hr3]
  have hdl := dig_length (r3.raw 32).1
  obtain ⟨z, hz⟩ : ∃ y, dig (r3.raw 32).1 = y := ⟨_, rfl⟩
  obtain ⟨r5, hr5⟩ : ∃ r2, (r3.raw 32).2 = r2 := ⟨_, rfl⟩
  rw [hz] at hdl
  rw [hz, hr5]
  obtain ⟨t, ht⟩ : ∃ y, (r5.text 32).1 = y := ⟨_, rfl⟩
  obtain ⟨r7, hr7⟩ : ∃ r2, (r5.text 32).2 = r2 := ⟨_, rfl⟩
  rw [ht, hr7]
  have Hy := Lib.hid (And.intro hy hr3)
  have Hz := Lib.hid (And.intro hz hr5)
  have Ht := Lib.hid (And.intro ht hr7)
  have Hdl := Lib.hid hdl
  have Hm := Lib.hid hm
  have Hd := Lib.hid hd
  clear hm hd hx hr1 hy hr3 hz hr5 ht hr7 hdl
  go_enter Tryz.func159, Tryz.ntmps159
  go_wp2_with fail
  refine (H1.out).mono ?_
  rintro e w1 ⟨rfl, hr1, hc1⟩
  have hm1 := (Hm.out).chg hc1 n2
  have c44 := (hm1.mf Hd.out).ever
  have f44 := hm1.frozen 44
  have hm2 : IsM (w1.setCell ⟨gm, 44, none⟩ (.int .u64 x)) gm { m with ever := x } L := by
    have := Blk.set_ hm1 44 (.int .u64 x)
    rw [set_ever _ _ Hd.out] at this
    exact this
  have hr2 : IsR (w1.setCell ⟨gm, 44, none⟩ (.int .u64 x)) g r1 := ⟨hr1.blk.far (Ne.symm n2) _, hr1.le, hr1.len⟩
  have hc2 := ((hc1).mono (S' := fun k => k = g ∨ k = gm) (fun k _ hk => .inl hk)).setCell (p := ⟨gm, 44, none⟩) (.inl (.inr rfl)) (.int .u64 x)
  have h2' := rfree_callsI g 18446744073709551615 MAX r1 _ rfl hr2
  rw [(Hy.out).1, (Hy.out).2] at h2'
  have H2 := Lib.hid h2'
  have Hm2 := Lib.hid hm2
  have Hc2 := Lib.hid hc2
  clear hm1 hm2 hr1 hr2 hc1 hc2 h2'
  go_wp2_with fail
  refine (H2.out).mono ?_
  rintro e w3 ⟨rfl, hr3, hc3⟩
  have hm3 := (Hm2.out).chg hc3 n2
  have hd3 : Dg { m with ever := x } := ⟨(Hd.out).h, (Hd.out).e⟩
  have c77 := (hm3.mf hd3).ecnt
  have f77 := hm3.frozen 77
  have hm4 : IsM (w3.setCell ⟨gm, 77, none⟩ (.int .u64 y)) gm { m with ever := x, ecnt := y } L := by
    have := Blk.set_ hm3 77 (.int .u64 y)
    rw [set_ecnt _ _ hd3] at this
    exact this
  have hr4 : IsR (w3.setCell ⟨gm, 77, none⟩ (.int .u64 y)) g r3 := ⟨hr3.blk.far (Ne.symm n2) _, hr3.le, hr3.len⟩
  have hc4 := ((Hc2.out).trans (hc3.mono (S' := fun k => k = g ∨ k = gm) (fun k _ hk => .inl hk))).setCell (p := ⟨gm, 77, none⟩) (.inl (.inr rfl)) (.int .u64 y)
  have h3' := takeDigest_calls g r3 _ hr4
  rw [(Hz.out).1, (Hz.out).2] at h3'
  have H3 := Lib.hid h3'
  have Hm4 := Lib.hid hm4
  have Hc4 := Lib.hid hc4
  clear hm3 hm4 hr3 hr4 hc3 hc4 hd3 c44 f44 h3'
  go_wp2_with fail
  refine (H3.out).mono ?_
  rintro e w5 ⟨rfl, hr5, hc5⟩
  have hm5 := (Hm4.out).chg hc5 n2
  have hd5 : Dg { m with ever := x, ecnt := y } := ⟨(Hd.out).h, (Hd.out).e⟩
  have hst := st_mid w5 gm 45 36 (mcells { m with ever := x, ecnt := y } L) z Hdl.out hm5 (by rw [mc_len _ _ hd5]; omega)
  rw [over_esum _ _ hd5 _ Hdl.out] at hst
  have hm6 : IsM (w5.setRow gm (mcells { m with ever := x, ecnt := y, esum := z } L)) gm { m with ever := x, ecnt := y, esum := z } L := hm5.setRow rfl
  have hr6 : IsR (w5.setRow gm (mcells { m with ever := x, ecnt := y, esum := z } L)) g r5 := ⟨hr5.blk.setRow_far (Ne.symm n2) _, hr5.le, hr5.len⟩
  have hc6 := ((Hc4.out).trans (hc5.mono (S' := fun k => k = g ∨ k = gm) (fun k _ hk => .inl hk))).setRow (g := gm) (.inl (.inr rfl)) (mcells { m with ever := x, ecnt := y, esum := z } L)
  have h4' := rtext_calls g 32 r5 _ hr6 (by unfold I64; omega)
  rw [(Ht.out).1, (Ht.out).2] at h4'
  have H4 := Lib.hid h4'
  have Hm6 := Lib.hid hm6
  have Hc6 := Lib.hid hc6
  clear hm5 hm6 hr5 hr6 hc5 hc6 hd5 c77 f77 h4'
  go_wp2_with fail
  refine (H4.out).mono ?_
  rintro e w7 ⟨rfl, hr7, hc7⟩
  have hm7 := (Hm6.out).chg hc7 n2
  have hd7 : Dg { m with ever := x, ecnt := y, esum := z } := ⟨(Hd.out).h, Hdl.out⟩
  have c78 := (hm7.mf hd7).enote
  have f78 := hm7.frozen 78
  have hm8 : IsM (w7.setCell ⟨gm, 78, none⟩ (S t)) gm { m with ever := x, ecnt := y, esum := z, enote := t } L := by
    have := Blk.set_ hm7 78 (S t)
    rw [set_enote _ _ hd7] at this
    exact this
  have hr8 : IsR (w7.setCell ⟨gm, 78, none⟩ (S t)) g r7 := ⟨hr7.blk.far (Ne.symm n2) _, hr7.le, hr7.len⟩
  have hc8 := ((Hc6.out).trans (hc7.mono (S' := fun k => k = g ∨ k = gm) (fun k _ hk => .inl hk))).setCell (p := ⟨gm, 78, none⟩) (.inl (.inr rfl)) (S t)
  have H8 := Lib.hid (And.intro hr8 (And.intro hm8 hc8))
  clear hm7 hd7 hm8 hr8 hc8 hr7 hc7
  go_wp2_with fail
  go_end0
  exact ⟨rfl, (H8.out).1, (H8.out).2.1, (H8.out).2.2⟩
end Go.Proofs.YthkfcfkkamffpaaGreat
