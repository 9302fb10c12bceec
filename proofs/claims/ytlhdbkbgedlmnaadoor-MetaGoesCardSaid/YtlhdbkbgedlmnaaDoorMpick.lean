/-
  Layer 6: the program's Pick: which record counts.
-/
import Derived.Test.YtlhdbkbgedlmnaaDoorMdcd
namespace Go.Proofs.YtlhdbkbgedlmnaaDoor
open Go.RowKit
set_option linter.unusedVariables false
set_option linter.unusedSimpArgs false
attribute [local go_sem ↓] ldM_eq stF_eq stM_eq

/-- the record before the first one -/
def Mt.two : Mt.M := ⟨0, 0, List.replicate 32 0, 0, 0, 0, 2⟩
theorem two_ok : Mt.two.Ok := ⟨by decide, by decide, by decide, by decide, by decide, by decide, by decide⟩
/-- which of two told slots counts -/
def pickC (a b : Mt.M) (j k pages : Int) : Mt.M × Int × Int :=
  if (j = 1 ∧ (a.pages : Int) ≤ pages) ∧ (¬ (k = 1 ∧ (b.pages : Int) ≤ pages) ∨ b.ver ≤ a.ver) then (a, 1, 0)
  else if k = 1 ∧ (b.pages : Int) ≤ pages then (b, 0, 0)
  else if j = 2 ∨ k = 2 then (Mt.zero, 0, 60)
  else if j = 0 ∧ k = 0 then (Mt.two, 0, 0)
  else (Mt.zero, 0, 61)
/-- what Pick tells -/
def pick (f : Mt.F) (x y : List UInt8) (pages : Int) : Mt.M × Int × Int :=
  if Mt.mayF f = false then (Mt.zero, 0, 2) else if pages < 2 then (Mt.two, 0, 0)
  else if Mt.fit f x = true ∧ Mt.fit f y = true then pickC (Mt.told f (Mt.sect f x)) (Mt.told f (Mt.sect f y)) (Mt.kind f (Mt.sect f x)) (Mt.kind f (Mt.sect f y)) pages
  else (Mt.zero, 0, 2)
abbrev PV (r : Mt.M × Int × Int) : Value := .tuple #[.agg (mcells r.1), .int .u32 r.2.1, .int .i64 r.2.2]
theorem ret_pick {m : Mt.M} {n e : Int} {r : Mt.M × Int × Int} (h : r = (m, n, e)) : Ending.returned (.tuple #[.agg (mcells m), .int .u32 n, .int .i64 e]) = .returned (PV r) := by rw [h]
theorem kind_le (f : Mt.F) (t : List UInt8) : (Mt.kind f t : Int) = 0 ∨ (Mt.kind f t : Int) = 1 ∨ (Mt.kind f t : Int) = 2 ∨ (Mt.kind f t : Int) = 3 := by
  unfold Mt.kind; split
  · exact .inl rfl
  split
  · exact .inr (.inr (.inr rfl))
  split
  · exact .inr (.inr (.inl rfl))
  · exact .inr (.inl rfl)
theorem dcd_fit {f : Mt.F} {s : List UInt8} (h : Mt.fit f s = true) : dcM f s = Mt.told f (Mt.sect f s) ∧ dcK f s = Mt.kind f (Mt.sect f s) ∧ dcE f s = 0 := dc_yes h

theorem Dc.st2 {w w1 : World} {f : Mt.F} (h : Dc w w1 f Mt.zero) : (stAgg 31 (.pointer (some ⟨w.heap.size + 1, 0, none⟩)) (.agg #[.int .u64 0, .int .u32 0, .int .u8 0, .int .u8 0, .int .u8 0, .int .u8 0, .int .u8 0, .int .u8 0, .int .u8 0, .int .u8 0, .int .u8 0, .int .u8 0, .int .u8 0, .int .u8 0, .int .u8 0, .int .u8 0, .int .u8 0, .int .u8 0, .int .u8 0, .int .u8 0, .int .u8 0, .int .u8 0, .int .u8 0, .int .u8 0, .int .u8 0, .int .u8 0, .int .u8 0, .int .u8 0, .int .u8 0, .int .u8 0, .int .u8 0, .int .u8 0, .int .u8 0, .int .u8 0, .int .u64 0, .int .u64 0, .int .u32 0, .int .u32 2])).run Tryd.prog w1 = .ok () (w1.setRow (w.heap.size + 1) (mcells Mt.two)) := stM_of h.m (mcells_size _ rfl) Mt.two rfl
/-- a record that was told is laid into a block of its own -/
theorem Dc.one {w w3 : World} {f : Mt.F} (h : Dc w w3 f Mt.zero) (M : Mt.M) (hM : M.sum.length = 32) : ∃ wy,
    (stAgg 31 (.pointer (some ⟨w3.heap.size, 0, none⟩)) (.agg (mcells M))).run Tryd.prog (w3.alloc (.cells #[.int .u64 0, .int .u32 0, .int .u8 0, .int .u8 0, .int .u8 0, .int .u8 0, .int .u8 0, .int .u8 0, .int .u8 0, .int .u8 0, .int .u8 0, .int .u8 0, .int .u8 0, .int .u8 0, .int .u8 0, .int .u8 0, .int .u8 0, .int .u8 0, .int .u8 0, .int .u8 0, .int .u8 0, .int .u8 0, .int .u8 0, .int .u8 0, .int .u8 0, .int .u8 0, .int .u8 0, .int .u8 0, .int .u8 0, .int .u8 0, .int .u8 0, .int .u8 0, .int .u8 0, .int .u8 0, .int .u64 0, .int .u64 0, .int .u32 0, .int .u32 0] 31)) = .ok () wy ∧
    Dc w wy f Mt.zero ∧ Blk wy w3.heap.size 31 (mcells M) := by
  have b1 : Blk (w3.alloc (.cells (mcells Mt.zero) 31)) w3.heap.size 31 (mcells Mt.zero) := Blk.new w3 _ _
  have hl := h.m.lt
  refine ⟨_, stM_of b1 (mcells_size _ rfl) M hM, ?_, b1.setRow _⟩
  refine ⟨(h.f.alloc _).setRow_far (by omega) _, (h.m.alloc _).setRow_far (by omega) _, ?_⟩
  have c := h.chg.alloc (.cells (mcells Mt.zero) 31)
  have hc := h.chg.size
  exact c.new (Chg.setRow (g := w3.heap.size) (Chg.refl (fun k => k = w3.heap.size) _) (.inl rfl) (mcells M)) (fun k e => by omega)
theorem Dc.ld {w w1 : World} {f : Mt.F} (h : Dc w w1 f Mt.zero) : (ldAgg 31 (.pointer (some ⟨w.heap.size + 1, 0, none⟩))).run Tryd.prog w1 = .ok (.agg (mcells Mt.zero)) w1 := ldM_of h.m rfl
theorem blkM {w : World} {g : Nat} {m : Mt.M} (h : Blk w g 31 (mcells m)) (hm : m.sum.length = 32) : w.cell? ⟨g, 0, none⟩ = some (.int .u64 m.ver) ∧ w.cell? ⟨g, 37, none⟩ = some (.int .u32 m.pages) ∧
    (ldAgg 31 (.pointer (some ⟨g, 0, none⟩))).run Tryd.prog w = .ok (.agg (mcells m)) w := by
  obtain ⟨a0, -, -, -, -, -, a2⟩ := mcells_at m hm
  exact ⟨by rw [h.cell]; exact a0, by rw [h.cell]; exact a2, ldM_of h hm⟩

set_option maxHeartbeats 4000000 in
set_option maxRecDepth 100000 in
theorem pick_early (f : Mt.F) (x y : List UInt8) (pages : Int) (w : World) (h : Mt.mayF f = false ∨ pages < 2) :
    Calls Tryd.prog 20 #[FV f, S x, S y, .int .i64 pages] w fun e w' => e = .returned (PV (pick f x y pages)) ∧ Chg (fun _ => False) w w' := by
  cases hm : Mt.mayF f
  · have HP := Lib.hid (show pick f x y pages = (Mt.zero, 0, 2) by unfold pick; rw [if_pos hm])
    have Hm := Lib.hid hm
    clear h hm
    go_enter Tryd.func20, Tryd.ntmps20
    go_wp2_with fail
    refine (right_calls f.page f.width _).mono ?_
    rintro e w1 ⟨rfl, hc⟩
    rw [Hm.out]
    have D := Dc.new hc
    clear hc
    have st := D.st rfl Mt.zero rfl
    have ld := D.ld
    go_wp2_with fail
    have D2 := D.set_ Mt.zero
    refine bodyPost_ret (v := .tuple #[.agg (mcells Mt.zero), .int .u32 0, .int .i64 2]) (results_row_tmp_tmp rfl _ _ (w.heap.size + 1) _ _ _ _ _ rfl rfl rfl D2.m Tryd.underlying31 rfl (by rw [mcells_size _ rfl]; exact size_meta)) rfl ⟨ret_pick HP.out, D2.chg⟩
  · have hp : pages < 2 := by rcases h with h | h; rw [hm] at h; cases h; exact h
    have HP := Lib.hid (show pick f x y pages = (Mt.two, 0, 0) by unfold pick; rw [if_neg (by rw [hm]; simp), if_pos hp])
    have Hm := Lib.hid hm
    clear h hm
    go_enter Tryd.func20, Tryd.ntmps20
    go_wp2_with fail
    refine (right_calls f.page f.width _).mono ?_
    rintro e w1 ⟨rfl, hc⟩
    rw [Hm.out]
    have D := Dc.new hc
    clear hc
    have st := D.st2
    go_wp2_with fail
    have D2 := D.set_ Mt.two
    refine bodyPost_ret (v := .tuple #[.agg (mcells Mt.two), .int .u32 0, .int .i64 0]) (results_row_tmp_tmp rfl _ _ (w.heap.size + 1) _ _ _ _ _ rfl rfl rfl D2.m Tryd.underlying31 rfl (by rw [mcells_size _ rfl]; exact size_meta)) rfl ⟨ret_pick HP.out, D2.chg⟩
theorem dc_e {f : Mt.F} {s : List UInt8} (h : ¬ Mt.fit f s = true) : (dcE f s) = 2 := (dc_no h).2.2
set_option maxHeartbeats 4000000 in
set_option maxRecDepth 100000 in
theorem pick_short (f : Mt.F) (x y : List UInt8) (pages : Int) (w : World) (hm : Mt.mayF f = true) (hp : 2 ≤ pages) (h : ¬ (Mt.fit f x = true ∧ Mt.fit f y = true)) :
    Calls Tryd.prog 20 #[FV f, S x, S y, .int .i64 pages] w fun e w' => e = .returned (PV (pick f x y pages)) ∧ Chg (fun _ => False) w w' := by
  have HP := Lib.hid (show pick f x y pages = (Mt.zero, 0, 2) by unfold pick; rw [if_neg (by rw [hm]; simp), if_neg (by omega), if_neg h])
  have Hm := Lib.hid hm
  have hm1 := (dcM_ok f x).sum
  have Hm1 := Lib.hid hm1
  clear hm hm1
  by_cases hfx : Mt.fit f x = true
  · have hfy : ¬ Mt.fit f y = true := fun a => h ⟨hfx, a⟩
    have HE := Lib.hid (dcd_fit hfx).2.2
    have HE2 := Lib.hid (dc_e hfy)
    clear hfx hfy h
    go_enter Tryd.func20, Tryd.ntmps20
    go_wp2_with fail
    refine (right_calls f.page f.width _).mono ?_
    rintro e w1 ⟨rfl, hc⟩
    rw [Hm.out]
    have D := Dc.new hc
    clear hc
    have f0 := D.f0
    have f1 := D.f1
    go_wp2_with fail
    refine (decode_calls f x _).mono ?_
    rintro e w2 ⟨rfl, hc⟩
    rw [HE.out]
    have D2 := D.quiet hc
    clear hc D f0 f1
    obtain ⟨wy, st1, D3, kA⟩ := D2.one (dcM f x) Hm1.out
    clear D2
    have f0 := D3.f0
    have f1 := D3.f1
    go_wp2_with fail
    refine (decode_calls f y _).mono ?_
    rintro e w3 ⟨rfl, hc⟩
    rw [HE2.out]
    have D4 := D3.quiet hc
    clear hc D3 f0 f1 st1
    obtain ⟨wz, st1, D5, kB⟩ := D4.one (dcM f y) (dcM_ok f y).sum
    clear D4
    have st := D5.st rfl Mt.zero rfl
    have ld := D5.ld
    go_wp2_with fail
    have D2 := D5.set_ Mt.zero
    refine bodyPost_ret (v := .tuple #[.agg (mcells Mt.zero), .int .u32 0, .int .i64 2]) (results_row_tmp_tmp rfl _ _ (w.heap.size + 1) _ _ _ _ _ rfl rfl rfl D2.m Tryd.underlying31 rfl (by rw [mcells_size _ rfl]; exact size_meta)) rfl ⟨ret_pick HP.out, D2.chg⟩
  · have HE := Lib.hid (dc_e hfx)
    clear hfx h
    go_enter Tryd.func20, Tryd.ntmps20
    go_wp2_with fail
    refine (right_calls f.page f.width _).mono ?_
    rintro e w1 ⟨rfl, hc⟩
    rw [Hm.out]
    have D := Dc.new hc
    clear hc
    have f0 := D.f0
    have f1 := D.f1
    go_wp2_with fail
    refine (decode_calls f x _).mono ?_
    rintro e w2 ⟨rfl, hc⟩
    rw [HE.out]
    have D2 := D.quiet hc
    clear hc D f0 f1
    obtain ⟨wy, st1, D3, kA⟩ := D2.one (dcM f x) Hm1.out
    clear D2
    have st := D3.st rfl Mt.zero rfl
    have ld := D3.ld
    go_wp2_with fail
    have D2 := D3.set_ Mt.zero
    refine bodyPost_ret (v := .tuple #[.agg (mcells Mt.zero), .int .u32 0, .int .i64 2]) (results_row_tmp_tmp rfl _ _ (w.heap.size + 1) _ _ _ _ _ rfl rfl rfl D2.m Tryd.underlying31 rfl (by rw [mcells_size _ rfl]; exact size_meta)) rfl ⟨ret_pick HP.out, D2.chg⟩

set_option maxHeartbeats 40000000 in
set_option maxRecDepth 100000 in
theorem pick_full (f : Mt.F) (x y : List UInt8) (pages : Int) (w : World) (hm : Mt.mayF f = true) (hp : 2 ≤ pages) (hfx : Mt.fit f x = true) (hfy : Mt.fit f y = true) :
    Calls Tryd.prog 20 #[FV f, S x, S y, .int .i64 pages] w fun e w' => e = .returned (PV (pick f x y pages)) ∧ Chg (fun _ => False) w w' := by
  have HP := Lib.hid (show pick f x y pages = pickC (dcM f x) (dcM f y) (dcK f x) (dcK f y) pages by unfold pick; rw [if_neg (by rw [hm]; simp), if_neg (by omega), if_pos ⟨hfx, hfy⟩, (dcd_fit hfx).1, (dcd_fit hfy).1, (dcd_fit hfx).2.1, (dcd_fit hfy).2.1])
  have Hm := Lib.hid hm
  have HE := Lib.hid (dcd_fit hfx).2.2
  have HE2 := Lib.hid (dcd_fit hfy).2.2
  have HJ := Lib.hid (kind_le f (Mt.sect f x))
  have HK := Lib.hid (kind_le f (Mt.sect f y))
  rw [← (dcd_fit hfx).2.1] at HJ
  rw [← (dcd_fit hfy).2.1] at HK
  have ha := dcM_ok f x
  have hb := dcM_ok f y
  have HD1 := Lib.hid (fun w => decode_calls f x w)
  have HD2 := Lib.hid (fun w => decode_calls f y w)
  generalize dcM f x = a at *
  generalize dcM f y = b at *
  generalize (dcK f x : Int) = j at *
  generalize (dcK f y : Int) = k at *
  generalize dcE f x = e1 at *
  generalize dcE f y = e2 at *
  obtain rfl := HE.out
  obtain rfl := HE2.out
  have Ha := Lib.hid ha.sum
  have Hb := Lib.hid hb.sum
  have hap : IntKind.i64.wrap (a.pages : Int) = (a.pages : Int) := IntWalk.i64_in _ (by have := ha.pages; omega)
  have hbp : IntKind.i64.wrap (b.pages : Int) = (b.pages : Int) := IntWalk.i64_in _ (by have := hb.pages; omega)
  clear hm hfx hfy ha hb HE HE2
  go_enter Tryd.func20, Tryd.ntmps20
  go_wp2_with fail
  refine (right_calls f.page f.width _).mono ?_
  rintro e w1 ⟨rfl, hc⟩
  rw [Hm.out]
  have D := Dc.new hc
  clear hc
  have f0 := D.f0
  have f1 := D.f1
  go_wp2_with fail
  refine (HD1.out _).mono ?_
  rintro e w2 ⟨rfl, hc⟩
  have D2 := D.quiet hc
  clear hc D f0 f1
  obtain ⟨wy, st1, D3, kA⟩ := D2.one a Ha.out
  clear D2
  have f0 := D3.f0
  have f1 := D3.f1
  go_wp2_with fail
  refine (HD2.out _).mono ?_
  rintro e w3 ⟨rfl, hc⟩
  have D4 := D3.quiet hc
  have kA := kA.chg hc (fun h => h)
  have hlt := kA.lt
  clear hc D3 f0 f1 st1
  obtain ⟨wz, st1, D5, kB⟩ := D4.one b Hb.out
  have kA : Blk wz w2.heap.size 31 (mcells a) := by
    have h1 := stM_of (Blk.new w3 31 (mcells Mt.zero)) (mcells_size _ rfl) b Hb.out
    have h2 := st1.symm.trans h1
    injection h2 with _ h2
    subst h2
    exact (kA.alloc _).setRow_far (by omega) _
  clear D4 hlt
  obtain ⟨a0, a1, a2⟩ := blkM kA Ha.out
  obtain ⟨b0, b1, b2⟩ := blkM kB Hb.out
  have st0 := D5.st rfl Mt.zero rfl
  have stt := D5.st2
  have sta := D5.st rfl a Ha.out
  have stb := D5.st rfl b Hb.out
  have ld := D5.ld
  rcases HJ.out with rfl | rfl | rfl | rfl <;> rcases HK.out with rfl | rfl | rfl | rfl
  · have HR := Lib.hid (show pickC a b 0 0 pages = (Mt.two, 0, 0) by unfold pickC; rw [if_neg (by omega), if_neg (by omega), if_neg (by omega), if_pos (by omega)])
    go_wp2_with fail
    have D2 := D5.set_ Mt.two
    refine bodyPost_ret (v := .tuple #[.agg (mcells Mt.two), .int .u32 0, .int .i64 0]) (results_row_tmp_tmp rfl _ _ (w.heap.size + 1) _ _ _ _ _ rfl rfl rfl D2.m Tryd.underlying31 rfl (by rw [mcells_size _ rfl]; exact size_meta)) rfl ⟨ret_pick (HP.out.trans HR.out), D2.chg⟩
  · by_cases pb : (b.pages : Int) ≤ pages
    · have HR := Lib.hid (show pickC a b 0 1 pages = (b, 0, 0) by unfold pickC; rw [if_neg (by omega), if_pos (by omega)])
      have t2 : decide ((b.pages : Int) ≤ pages) = true := by simpa using pb
      clear pb
      go_wp2_with fail
      have D2 := D5.set_ b
      refine bodyPost_ret (v := .tuple #[.agg (mcells b), .int .u32 0, .int .i64 0]) (results_row_tmp_tmp rfl _ _ (w.heap.size + 1) _ _ _ _ _ rfl rfl rfl D2.m Tryd.underlying31 rfl (by rw [mcells_size _ Hb.out]; exact size_meta)) rfl ⟨ret_pick (HP.out.trans HR.out), D2.chg⟩
    · have HR := Lib.hid (show pickC a b 0 1 pages = (Mt.zero, 0, 61) by unfold pickC; rw [if_neg (by omega), if_neg (by omega), if_neg (by omega), if_neg (by omega)])
      have t2 : decide ((b.pages : Int) ≤ pages) = false := by simpa using pb
      clear pb
      go_wp2_with fail
      have D2 := D5.set_ Mt.zero
      refine bodyPost_ret (v := .tuple #[.agg (mcells Mt.zero), .int .u32 0, .int .i64 61]) (results_row_tmp_tmp rfl _ _ (w.heap.size + 1) _ _ _ _ _ rfl rfl rfl D2.m Tryd.underlying31 rfl (by rw [mcells_size _ rfl]; exact size_meta)) rfl ⟨ret_pick (HP.out.trans HR.out), D2.chg⟩
  · have HR := Lib.hid (show pickC a b 0 2 pages = (Mt.zero, 0, 60) by unfold pickC; rw [if_neg (by omega), if_neg (by omega), if_pos (by omega)])
    go_wp2_with fail
    have D2 := D5.set_ Mt.zero
    refine bodyPost_ret (v := .tuple #[.agg (mcells Mt.zero), .int .u32 0, .int .i64 60]) (results_row_tmp_tmp rfl _ _ (w.heap.size + 1) _ _ _ _ _ rfl rfl rfl D2.m Tryd.underlying31 rfl (by rw [mcells_size _ rfl]; exact size_meta)) rfl ⟨ret_pick (HP.out.trans HR.out), D2.chg⟩
  · have HR := Lib.hid (show pickC a b 0 3 pages = (Mt.zero, 0, 61) by unfold pickC; rw [if_neg (by omega), if_neg (by omega), if_neg (by omega), if_neg (by omega)])
    go_wp2_with fail
    have D2 := D5.set_ Mt.zero
    refine bodyPost_ret (v := .tuple #[.agg (mcells Mt.zero), .int .u32 0, .int .i64 61]) (results_row_tmp_tmp rfl _ _ (w.heap.size + 1) _ _ _ _ _ rfl rfl rfl D2.m Tryd.underlying31 rfl (by rw [mcells_size _ rfl]; exact size_meta)) rfl ⟨ret_pick (HP.out.trans HR.out), D2.chg⟩
  · by_cases pa : (a.pages : Int) ≤ pages
    · have HR := Lib.hid (show pickC a b 1 0 pages = (a, 1, 0) by unfold pickC; rw [if_pos (by omega)])
      have t1 : decide ((a.pages : Int) ≤ pages) = true := by simpa using pa
      clear pa
      go_wp2_with fail
      have D2 := D5.set_ a
      refine bodyPost_ret (v := .tuple #[.agg (mcells a), .int .u32 1, .int .i64 0]) (results_row_tmp_tmp rfl _ _ (w.heap.size + 1) _ _ _ _ _ rfl rfl rfl D2.m Tryd.underlying31 rfl (by rw [mcells_size _ Ha.out]; exact size_meta)) rfl ⟨ret_pick (HP.out.trans HR.out), D2.chg⟩
    · have HR := Lib.hid (show pickC a b 1 0 pages = (Mt.zero, 0, 61) by unfold pickC; rw [if_neg (by omega), if_neg (by omega), if_neg (by omega), if_neg (by omega)])
      have t1 : decide ((a.pages : Int) ≤ pages) = false := by simpa using pa
      clear pa
      go_wp2_with fail
      have D2 := D5.set_ Mt.zero
      refine bodyPost_ret (v := .tuple #[.agg (mcells Mt.zero), .int .u32 0, .int .i64 61]) (results_row_tmp_tmp rfl _ _ (w.heap.size + 1) _ _ _ _ _ rfl rfl rfl D2.m Tryd.underlying31 rfl (by rw [mcells_size _ rfl]; exact size_meta)) rfl ⟨ret_pick (HP.out.trans HR.out), D2.chg⟩
  · by_cases pa : (a.pages : Int) ≤ pages <;> by_cases pb : (b.pages : Int) ≤ pages
    · by_cases pv : b.ver ≤ a.ver
      · have HR := Lib.hid (show pickC a b 1 1 pages = (a, 1, 0) by unfold pickC; rw [if_pos (by omega)])
        have t1 : decide ((a.pages : Int) ≤ pages) = true := by simpa using pa
        have t2 : decide ((b.pages : Int) ≤ pages) = true := by simpa using pb
        have t3 : decide (b.ver ≤ a.ver) = true := by simpa using pv
        clear pa pb pv
        go_wp2_with fail
        have D2 := D5.set_ a
        refine bodyPost_ret (v := .tuple #[.agg (mcells a), .int .u32 1, .int .i64 0]) (results_row_tmp_tmp rfl _ _ (w.heap.size + 1) _ _ _ _ _ rfl rfl rfl D2.m Tryd.underlying31 rfl (by rw [mcells_size _ Ha.out]; exact size_meta)) rfl ⟨ret_pick (HP.out.trans HR.out), D2.chg⟩
      · have HR := Lib.hid (show pickC a b 1 1 pages = (b, 0, 0) by unfold pickC; rw [if_neg (by omega), if_pos (by omega)])
        have t1 : decide ((a.pages : Int) ≤ pages) = true := by simpa using pa
        have t2 : decide ((b.pages : Int) ≤ pages) = true := by simpa using pb
        have t3 : decide (b.ver ≤ a.ver) = false := by simpa using pv
        clear pa pb pv
        go_wp2_with fail
        have D2 := D5.set_ b
        refine bodyPost_ret (v := .tuple #[.agg (mcells b), .int .u32 0, .int .i64 0]) (results_row_tmp_tmp rfl _ _ (w.heap.size + 1) _ _ _ _ _ rfl rfl rfl D2.m Tryd.underlying31 rfl (by rw [mcells_size _ Hb.out]; exact size_meta)) rfl ⟨ret_pick (HP.out.trans HR.out), D2.chg⟩
    · have HR := Lib.hid (show pickC a b 1 1 pages = (a, 1, 0) by unfold pickC; rw [if_pos (by omega)])
      have t1 : decide ((a.pages : Int) ≤ pages) = true := by simpa using pa
      have t2 : decide ((b.pages : Int) ≤ pages) = false := by simpa using pb
      clear pa pb
      go_wp2_with fail
      have D2 := D5.set_ a
      refine bodyPost_ret (v := .tuple #[.agg (mcells a), .int .u32 1, .int .i64 0]) (results_row_tmp_tmp rfl _ _ (w.heap.size + 1) _ _ _ _ _ rfl rfl rfl D2.m Tryd.underlying31 rfl (by rw [mcells_size _ Ha.out]; exact size_meta)) rfl ⟨ret_pick (HP.out.trans HR.out), D2.chg⟩
    · have HR := Lib.hid (show pickC a b 1 1 pages = (b, 0, 0) by unfold pickC; rw [if_neg (by omega), if_pos (by omega)])
      have t1 : decide ((a.pages : Int) ≤ pages) = false := by simpa using pa
      have t2 : decide ((b.pages : Int) ≤ pages) = true := by simpa using pb
      clear pa pb
      go_wp2_with fail
      have D2 := D5.set_ b
      refine bodyPost_ret (v := .tuple #[.agg (mcells b), .int .u32 0, .int .i64 0]) (results_row_tmp_tmp rfl _ _ (w.heap.size + 1) _ _ _ _ _ rfl rfl rfl D2.m Tryd.underlying31 rfl (by rw [mcells_size _ Hb.out]; exact size_meta)) rfl ⟨ret_pick (HP.out.trans HR.out), D2.chg⟩
    · have HR := Lib.hid (show pickC a b 1 1 pages = (Mt.zero, 0, 61) by unfold pickC; rw [if_neg (by omega), if_neg (by omega), if_neg (by omega), if_neg (by omega)])
      have t1 : decide ((a.pages : Int) ≤ pages) = false := by simpa using pa
      have t2 : decide ((b.pages : Int) ≤ pages) = false := by simpa using pb
      clear pa pb
      go_wp2_with fail
      have D2 := D5.set_ Mt.zero
      refine bodyPost_ret (v := .tuple #[.agg (mcells Mt.zero), .int .u32 0, .int .i64 61]) (results_row_tmp_tmp rfl _ _ (w.heap.size + 1) _ _ _ _ _ rfl rfl rfl D2.m Tryd.underlying31 rfl (by rw [mcells_size _ rfl]; exact size_meta)) rfl ⟨ret_pick (HP.out.trans HR.out), D2.chg⟩
  · by_cases pa : (a.pages : Int) ≤ pages
    · have HR := Lib.hid (show pickC a b 1 2 pages = (a, 1, 0) by unfold pickC; rw [if_pos (by omega)])
      have t1 : decide ((a.pages : Int) ≤ pages) = true := by simpa using pa
      clear pa
      go_wp2_with fail
      have D2 := D5.set_ a
      refine bodyPost_ret (v := .tuple #[.agg (mcells a), .int .u32 1, .int .i64 0]) (results_row_tmp_tmp rfl _ _ (w.heap.size + 1) _ _ _ _ _ rfl rfl rfl D2.m Tryd.underlying31 rfl (by rw [mcells_size _ Ha.out]; exact size_meta)) rfl ⟨ret_pick (HP.out.trans HR.out), D2.chg⟩
    · have HR := Lib.hid (show pickC a b 1 2 pages = (Mt.zero, 0, 60) by unfold pickC; rw [if_neg (by omega), if_neg (by omega), if_pos (by omega)])
      have t1 : decide ((a.pages : Int) ≤ pages) = false := by simpa using pa
      clear pa
      go_wp2_with fail
      have D2 := D5.set_ Mt.zero
      refine bodyPost_ret (v := .tuple #[.agg (mcells Mt.zero), .int .u32 0, .int .i64 60]) (results_row_tmp_tmp rfl _ _ (w.heap.size + 1) _ _ _ _ _ rfl rfl rfl D2.m Tryd.underlying31 rfl (by rw [mcells_size _ rfl]; exact size_meta)) rfl ⟨ret_pick (HP.out.trans HR.out), D2.chg⟩
  · by_cases pa : (a.pages : Int) ≤ pages
    · have HR := Lib.hid (show pickC a b 1 3 pages = (a, 1, 0) by unfold pickC; rw [if_pos (by omega)])
      have t1 : decide ((a.pages : Int) ≤ pages) = true := by simpa using pa
      clear pa
      go_wp2_with fail
      have D2 := D5.set_ a
      refine bodyPost_ret (v := .tuple #[.agg (mcells a), .int .u32 1, .int .i64 0]) (results_row_tmp_tmp rfl _ _ (w.heap.size + 1) _ _ _ _ _ rfl rfl rfl D2.m Tryd.underlying31 rfl (by rw [mcells_size _ Ha.out]; exact size_meta)) rfl ⟨ret_pick (HP.out.trans HR.out), D2.chg⟩
    · have HR := Lib.hid (show pickC a b 1 3 pages = (Mt.zero, 0, 61) by unfold pickC; rw [if_neg (by omega), if_neg (by omega), if_neg (by omega), if_neg (by omega)])
      have t1 : decide ((a.pages : Int) ≤ pages) = false := by simpa using pa
      clear pa
      go_wp2_with fail
      have D2 := D5.set_ Mt.zero
      refine bodyPost_ret (v := .tuple #[.agg (mcells Mt.zero), .int .u32 0, .int .i64 61]) (results_row_tmp_tmp rfl _ _ (w.heap.size + 1) _ _ _ _ _ rfl rfl rfl D2.m Tryd.underlying31 rfl (by rw [mcells_size _ rfl]; exact size_meta)) rfl ⟨ret_pick (HP.out.trans HR.out), D2.chg⟩
  · have HR := Lib.hid (show pickC a b 2 0 pages = (Mt.zero, 0, 60) by unfold pickC; rw [if_neg (by omega), if_neg (by omega), if_pos (by omega)])
    go_wp2_with fail
    have D2 := D5.set_ Mt.zero
    refine bodyPost_ret (v := .tuple #[.agg (mcells Mt.zero), .int .u32 0, .int .i64 60]) (results_row_tmp_tmp rfl _ _ (w.heap.size + 1) _ _ _ _ _ rfl rfl rfl D2.m Tryd.underlying31 rfl (by rw [mcells_size _ rfl]; exact size_meta)) rfl ⟨ret_pick (HP.out.trans HR.out), D2.chg⟩
  · by_cases pb : (b.pages : Int) ≤ pages
    · have HR := Lib.hid (show pickC a b 2 1 pages = (b, 0, 0) by unfold pickC; rw [if_neg (by omega), if_pos (by omega)])
      have t2 : decide ((b.pages : Int) ≤ pages) = true := by simpa using pb
      clear pb
      go_wp2_with fail
      have D2 := D5.set_ b
      refine bodyPost_ret (v := .tuple #[.agg (mcells b), .int .u32 0, .int .i64 0]) (results_row_tmp_tmp rfl _ _ (w.heap.size + 1) _ _ _ _ _ rfl rfl rfl D2.m Tryd.underlying31 rfl (by rw [mcells_size _ Hb.out]; exact size_meta)) rfl ⟨ret_pick (HP.out.trans HR.out), D2.chg⟩
    · have HR := Lib.hid (show pickC a b 2 1 pages = (Mt.zero, 0, 60) by unfold pickC; rw [if_neg (by omega), if_neg (by omega), if_pos (by omega)])
      have t2 : decide ((b.pages : Int) ≤ pages) = false := by simpa using pb
      clear pb
      go_wp2_with fail
      have D2 := D5.set_ Mt.zero
      refine bodyPost_ret (v := .tuple #[.agg (mcells Mt.zero), .int .u32 0, .int .i64 60]) (results_row_tmp_tmp rfl _ _ (w.heap.size + 1) _ _ _ _ _ rfl rfl rfl D2.m Tryd.underlying31 rfl (by rw [mcells_size _ rfl]; exact size_meta)) rfl ⟨ret_pick (HP.out.trans HR.out), D2.chg⟩
  · have HR := Lib.hid (show pickC a b 2 2 pages = (Mt.zero, 0, 60) by unfold pickC; rw [if_neg (by omega), if_neg (by omega), if_pos (by omega)])
    go_wp2_with fail
    have D2 := D5.set_ Mt.zero
    refine bodyPost_ret (v := .tuple #[.agg (mcells Mt.zero), .int .u32 0, .int .i64 60]) (results_row_tmp_tmp rfl _ _ (w.heap.size + 1) _ _ _ _ _ rfl rfl rfl D2.m Tryd.underlying31 rfl (by rw [mcells_size _ rfl]; exact size_meta)) rfl ⟨ret_pick (HP.out.trans HR.out), D2.chg⟩
  · have HR := Lib.hid (show pickC a b 2 3 pages = (Mt.zero, 0, 60) by unfold pickC; rw [if_neg (by omega), if_neg (by omega), if_pos (by omega)])
    go_wp2_with fail
    have D2 := D5.set_ Mt.zero
    refine bodyPost_ret (v := .tuple #[.agg (mcells Mt.zero), .int .u32 0, .int .i64 60]) (results_row_tmp_tmp rfl _ _ (w.heap.size + 1) _ _ _ _ _ rfl rfl rfl D2.m Tryd.underlying31 rfl (by rw [mcells_size _ rfl]; exact size_meta)) rfl ⟨ret_pick (HP.out.trans HR.out), D2.chg⟩
  · have HR := Lib.hid (show pickC a b 3 0 pages = (Mt.zero, 0, 61) by unfold pickC; rw [if_neg (by omega), if_neg (by omega), if_neg (by omega), if_neg (by omega)])
    go_wp2_with fail
    have D2 := D5.set_ Mt.zero
    refine bodyPost_ret (v := .tuple #[.agg (mcells Mt.zero), .int .u32 0, .int .i64 61]) (results_row_tmp_tmp rfl _ _ (w.heap.size + 1) _ _ _ _ _ rfl rfl rfl D2.m Tryd.underlying31 rfl (by rw [mcells_size _ rfl]; exact size_meta)) rfl ⟨ret_pick (HP.out.trans HR.out), D2.chg⟩
  · by_cases pb : (b.pages : Int) ≤ pages
    · have HR := Lib.hid (show pickC a b 3 1 pages = (b, 0, 0) by unfold pickC; rw [if_neg (by omega), if_pos (by omega)])
      have t2 : decide ((b.pages : Int) ≤ pages) = true := by simpa using pb
      clear pb
      go_wp2_with fail
      have D2 := D5.set_ b
      refine bodyPost_ret (v := .tuple #[.agg (mcells b), .int .u32 0, .int .i64 0]) (results_row_tmp_tmp rfl _ _ (w.heap.size + 1) _ _ _ _ _ rfl rfl rfl D2.m Tryd.underlying31 rfl (by rw [mcells_size _ Hb.out]; exact size_meta)) rfl ⟨ret_pick (HP.out.trans HR.out), D2.chg⟩
    · have HR := Lib.hid (show pickC a b 3 1 pages = (Mt.zero, 0, 61) by unfold pickC; rw [if_neg (by omega), if_neg (by omega), if_neg (by omega), if_neg (by omega)])
      have t2 : decide ((b.pages : Int) ≤ pages) = false := by simpa using pb
      clear pb
      go_wp2_with fail
      have D2 := D5.set_ Mt.zero
      refine bodyPost_ret (v := .tuple #[.agg (mcells Mt.zero), .int .u32 0, .int .i64 61]) (results_row_tmp_tmp rfl _ _ (w.heap.size + 1) _ _ _ _ _ rfl rfl rfl D2.m Tryd.underlying31 rfl (by rw [mcells_size _ rfl]; exact size_meta)) rfl ⟨ret_pick (HP.out.trans HR.out), D2.chg⟩
  · have HR := Lib.hid (show pickC a b 3 2 pages = (Mt.zero, 0, 60) by unfold pickC; rw [if_neg (by omega), if_neg (by omega), if_pos (by omega)])
    go_wp2_with fail
    have D2 := D5.set_ Mt.zero
    refine bodyPost_ret (v := .tuple #[.agg (mcells Mt.zero), .int .u32 0, .int .i64 60]) (results_row_tmp_tmp rfl _ _ (w.heap.size + 1) _ _ _ _ _ rfl rfl rfl D2.m Tryd.underlying31 rfl (by rw [mcells_size _ rfl]; exact size_meta)) rfl ⟨ret_pick (HP.out.trans HR.out), D2.chg⟩
  · have HR := Lib.hid (show pickC a b 3 3 pages = (Mt.zero, 0, 61) by unfold pickC; rw [if_neg (by omega), if_neg (by omega), if_neg (by omega), if_neg (by omega)])
    go_wp2_with fail
    have D2 := D5.set_ Mt.zero
    refine bodyPost_ret (v := .tuple #[.agg (mcells Mt.zero), .int .u32 0, .int .i64 61]) (results_row_tmp_tmp rfl _ _ (w.heap.size + 1) _ _ _ _ _ rfl rfl rfl D2.m Tryd.underlying31 rfl (by rw [mcells_size _ rfl]; exact size_meta)) rfl ⟨ret_pick (HP.out.trans HR.out), D2.chg⟩
theorem pick_calls (f : Mt.F) (x y : List UInt8) (pages : Int) (w : World) :
    Calls Tryd.prog 20 #[FV f, S x, S y, .int .i64 pages] w fun e w' => e = .returned (PV (pick f x y pages)) ∧ Chg (fun _ => False) w w' := by
  cases hm : Mt.mayF f
  · exact pick_early f x y pages w (.inl hm)
  · rcases Int.lt_or_le pages 2 with hp | hp
    · exact pick_early f x y pages w (.inr hp)
    · by_cases h : Mt.fit f x = true ∧ Mt.fit f y = true
      · exact pick_full f x y pages w hm hp h.1 h.2
      · exact pick_short f x y pages w hm hp h
end Go.Proofs.YtlhdbkbgedlmnaaDoor
