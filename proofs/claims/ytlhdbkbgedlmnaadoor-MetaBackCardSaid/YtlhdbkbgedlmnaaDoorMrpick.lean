/-
  Layer 6: the document's Decode and Pick.
-/
import Derived.Test.YtlhdbkbgedlmnaaDoorMslot
namespace Go.Proofs.YtlhdbkbgedlmnaaDoor
open Go.RowKit
set_option linter.unusedVariables false
set_option linter.unusedSimpArgs false
attribute [local go_sem ↓] ldM_eq stF_eq stM_eq

theorem ret_rdc {m m' : Mt.M} {k k' e e' : Int} (h1 : m = m') (h2 : k = k') (h3 : e = e') : Ending.returned (.tuple #[.agg (mcells m), .int .i64 k, .int .i64 e]) = .returned (.tuple #[.agg (mcells m'), .int .i64 k', .int .i64 e']) := by rw [h1, h2, h3]
theorem fit_no {f : Mt.F} {s : List UInt8} (hm : Mt.mayF f = true) (h : ¬ Mt.fit f s = true) : ((s.length : Int) == f.page) = false := by
  rw [beq_eq_false_iff_ne]; intro e; apply h; unfold Mt.fit; rw [hm]; simpa using e
theorem fit_len {f : Mt.F} {s : List UInt8} (h : Mt.fit f s = true) : ((s.length : Int) == f.page) = true := by
  obtain ⟨q, hq1, -, -, hq4, -, -⟩ := fit_sect h
  rw [beq_iff_eq]; omega
theorem fit_may {f : Mt.F} {s : List UInt8} (h : Mt.fit f s = true) : Mt.mayF f = true := by unfold Mt.fit at h; simp only [Bool.and_eq_true] at h; exact h.1
theorem bne_of {a b : Int} {c : Bool} (h : (a == b) = c) : (a != b) = !c := by rw [bne, h]

set_option maxHeartbeats 4000000 in
set_option maxRecDepth 100000 in
theorem rdecode_calls (f : Mt.F) (s : List UInt8) (w : World) :
    Calls Tryd.prog 17 #[FV f, S s] w fun e w' => e = .returned (.tuple #[.agg (mcells (dcM f s)), .int .i64 (dcK f s), .int .i64 (dcE f s)]) ∧ Chg (fun _ => False) w w' := by
  by_cases h : Mt.fit f s = true
  · have HD := Lib.hid (dc_yes h)
    have Hm := Lib.hid (fit_may h)
    have hn := fit_len h
    have hn2 : ((s.length : Int) != f.page) = false := bne_of hn
    have hts := (told_ok f (Mt.sect f s) (by obtain ⟨q, -, h1, -, -, -, h2⟩ := fit_sect h; omega)).sum
    have Hts := Lib.hid hts
    have HS := Lib.hid (fun w => slot_calls f s w h)
    clear h hts
    go_enter Tryd.func17, Tryd.ntmps17
    go_wp2_with fail
    refine (mayframe_calls f.page f.width _).mono ?_
    rintro e w1 ⟨rfl, hc⟩
    rw [Hm.out]
    have D := Dc.new hc
    clear hc
    have f0 := D.f0
    have f1 := D.f1
    go_wp2_with fail
    refine (HS.out _).mono ?_
    rintro e w2 ⟨rfl, hc⟩
    have D2 := D.quiet hc
    clear hc D f0 f1
    obtain ⟨wy, st1, D3, kA⟩ := D2.one (Mt.told f (Mt.sect f s)) Hts.out
    clear D2
    have lm := ldM_of kA Hts.out
    have st := D3.st rfl (Mt.told f (Mt.sect f s)) Hts.out
    go_wp2_with fail
    have D4 := D3.set_ (Mt.told f (Mt.sect f s))
    refine bodyPost_ret (v := .tuple #[.agg (mcells (Mt.told f (Mt.sect f s))), .int .i64 (Mt.kind f (Mt.sect f s)), .int .i64 0]) (results_row_tmp_tmp rfl _ _ (w.heap.size + 1) _ _ _ _ _ rfl rfl rfl D4.m Tryd.underlying31 rfl (by rw [mcells_size _ Hts.out]; exact size_meta)) rfl ⟨?_, D4.chg⟩
    exact ret_rdc HD.out.1.symm (by rw [HD.out.2.1]) HD.out.2.2.symm
  · have HD := Lib.hid (dc_no h)
    cases hm : Mt.mayF f
    · have Hm := Lib.hid hm
      clear h hm
      go_enter Tryd.func17, Tryd.ntmps17
      go_wp2_with fail
      refine (mayframe_calls f.page f.width _).mono ?_
      rintro e w1 ⟨rfl, hc⟩
      rw [Hm.out]
      have D := Dc.new hc
      clear hc
      have st := D.st0
      go_wp2_with fail
      have D4 := D.set_ Mt.zero
      refine bodyPost_ret (v := .tuple #[.agg (mcells Mt.zero), .int .i64 0, .int .i64 2]) (results_row_tmp_tmp rfl _ _ (w.heap.size + 1) _ _ _ _ _ rfl rfl rfl D4.m Tryd.underlying31 rfl (by rw [mcells_size _ rfl]; exact size_meta)) rfl ⟨?_, D4.chg⟩
      exact ret_rdc HD.out.1.symm (by rw [HD.out.2.1]; rfl) HD.out.2.2.symm
    · have hn := fit_no hm h
      have hn2 : ((s.length : Int) != f.page) = true := bne_of hn
      have Hm := Lib.hid hm
      clear h hm
      go_enter Tryd.func17, Tryd.ntmps17
      go_wp2_with fail
      refine (mayframe_calls f.page f.width _).mono ?_
      rintro e w1 ⟨rfl, hc⟩
      rw [Hm.out]
      have D := Dc.new hc
      clear hc
      have f0 := D.f0
      have f1 := D.f1
      have st := D.st0
      go_wp2_with fail
      have D4 := D.set_ Mt.zero
      refine bodyPost_ret (v := .tuple #[.agg (mcells Mt.zero), .int .i64 0, .int .i64 2]) (results_row_tmp_tmp rfl _ _ (w.heap.size + 1) _ _ _ _ _ rfl rfl rfl D4.m Tryd.underlying31 rfl (by rw [mcells_size _ rfl]; exact size_meta)) rfl ⟨?_, D4.chg⟩
      exact ret_rdc HD.out.1.symm (by rw [HD.out.2.1]; rfl) HD.out.2.2.symm

set_option maxHeartbeats 4000000 in
set_option maxRecDepth 100000 in
theorem rpick_early (f : Mt.F) (x y : List UInt8) (pages : Int) (w : World) (h : Mt.mayF f = false ∨ pages < 2 ∨ ¬ (Mt.fit f x = true ∧ Mt.fit f y = true)) :
    Calls Tryd.prog 19 #[FV f, S x, S y, .int .i64 pages] w fun e w' => e = .returned (PV (pick f x y pages)) ∧ Chg (fun _ => False) w w' := by
  cases hm : Mt.mayF f
  · have HP := Lib.hid (show pick f x y pages = (Mt.zero, 0, 2) by unfold pick; rw [if_pos hm])
    have Hm := Lib.hid hm
    clear h hm
    go_enter Tryd.func19, Tryd.ntmps19
    go_wp2_with fail
    refine (mayframe_calls f.page f.width _).mono ?_
    rintro e w1 ⟨rfl, hc⟩
    rw [Hm.out]
    have D := Dc.new hc
    clear hc
    have st := D.st0
    go_wp2_with fail
    have D2 := D.set_ Mt.zero
    refine bodyPost_ret (v := .tuple #[.agg (mcells Mt.zero), .int .u32 0, .int .i64 2]) (results_row_tmp_tmp rfl _ _ (w.heap.size + 1) _ _ _ _ _ rfl rfl rfl D2.m Tryd.underlying31 rfl (by rw [mcells_size _ rfl]; exact size_meta)) rfl ⟨ret_pick HP.out, D2.chg⟩
  · rcases Int.lt_or_le pages 2 with hp | hp
    · have HP := Lib.hid (show pick f x y pages = (Mt.two, 0, 0) by unfold pick; rw [if_neg (by rw [hm]; simp), if_pos hp])
      have Hm := Lib.hid hm
      clear h hm
      go_enter Tryd.func19, Tryd.ntmps19
      go_wp2_with fail
      refine (mayframe_calls f.page f.width _).mono ?_
      rintro e w1 ⟨rfl, hc⟩
      rw [Hm.out]
      have D := Dc.new hc
      clear hc
      have st := D.st2
      go_wp2_with fail
      have D2 := D.set_ Mt.two
      refine bodyPost_ret (v := .tuple #[.agg (mcells Mt.two), .int .u32 0, .int .i64 0]) (results_row_tmp_tmp rfl _ _ (w.heap.size + 1) _ _ _ _ _ rfl rfl rfl D2.m Tryd.underlying31 rfl (by rw [mcells_size _ rfl]; exact size_meta)) rfl ⟨ret_pick HP.out, D2.chg⟩
    · have h : ¬ (Mt.fit f x = true ∧ Mt.fit f y = true) := by
        rcases h with h | h | h
        · rw [hm] at h; cases h
        · omega
        · exact h
      have HP := Lib.hid (show pick f x y pages = (Mt.zero, 0, 2) by unfold pick; rw [if_neg (by rw [hm]; simp), if_neg (by omega), if_neg h])
      have Hm := Lib.hid hm
      by_cases hfx : Mt.fit f x = true
      · have hfy : ¬ Mt.fit f y = true := fun a => h ⟨hfx, a⟩
        have hn := fit_len hfx
        have hn2 : ((x.length : Int) != f.page) = false := bne_of hn
        have hk := fit_no hm hfy
        have hk2 : ((y.length : Int) != f.page) = true := bne_of hk
        clear hfx hfy h hm
        go_enter Tryd.func19, Tryd.ntmps19
        go_wp2_with fail
        refine (mayframe_calls f.page f.width _).mono ?_
        rintro e w1 ⟨rfl, hc⟩
        rw [Hm.out]
        have D := Dc.new hc
        clear hc
        have st := D.st0
        have f0 := D.f0
        have f1 := D.f1
        go_wp2_with fail
        have D2 := D.set_ Mt.zero
        refine bodyPost_ret (v := .tuple #[.agg (mcells Mt.zero), .int .u32 0, .int .i64 2]) (results_row_tmp_tmp rfl _ _ (w.heap.size + 1) _ _ _ _ _ rfl rfl rfl D2.m Tryd.underlying31 rfl (by rw [mcells_size _ rfl]; exact size_meta)) rfl ⟨ret_pick HP.out, D2.chg⟩
      · have hn := fit_no hm hfx
        have hn2 : ((x.length : Int) != f.page) = true := bne_of hn
        clear hfx h hm
        go_enter Tryd.func19, Tryd.ntmps19
        go_wp2_with fail
        refine (mayframe_calls f.page f.width _).mono ?_
        rintro e w1 ⟨rfl, hc⟩
        rw [Hm.out]
        have D := Dc.new hc
        clear hc
        have st := D.st0
        have f0 := D.f0
        have f1 := D.f1
        go_wp2_with fail
        have D2 := D.set_ Mt.zero
        refine bodyPost_ret (v := .tuple #[.agg (mcells Mt.zero), .int .u32 0, .int .i64 2]) (results_row_tmp_tmp rfl _ _ (w.heap.size + 1) _ _ _ _ _ rfl rfl rfl D2.m Tryd.underlying31 rfl (by rw [mcells_size _ rfl]; exact size_meta)) rfl ⟨ret_pick HP.out, D2.chg⟩

set_option maxHeartbeats 40000000 in
set_option maxRecDepth 100000 in
theorem rpick_full (f : Mt.F) (x y : List UInt8) (pages : Int) (w : World) (hm : Mt.mayF f = true) (hp : 2 ≤ pages) (hfx : Mt.fit f x = true) (hfy : Mt.fit f y = true) :
    Calls Tryd.prog 19 #[FV f, S x, S y, .int .i64 pages] w fun e w' => e = .returned (PV (pick f x y pages)) ∧ Chg (fun _ => False) w w' := by
  have HP := Lib.hid (show pick f x y pages = pickC (Mt.told f (Mt.sect f x)) (Mt.told f (Mt.sect f y)) (Mt.kind f (Mt.sect f x)) (Mt.kind f (Mt.sect f y)) pages by unfold pick; rw [if_neg (by rw [hm]; simp), if_neg (by omega), if_pos ⟨hfx, hfy⟩])
  have Hm := Lib.hid hm
  have HJ := Lib.hid (kind_le f (Mt.sect f x))
  have HK := Lib.hid (kind_le f (Mt.sect f y))
  have ha := told_ok f (Mt.sect f x) (by obtain ⟨q, -, h1, -, -, -, h2⟩ := fit_sect hfx; omega)
  have hb := told_ok f (Mt.sect f y) (by obtain ⟨q, -, h1, -, -, -, h2⟩ := fit_sect hfy; omega)
  have HD1 := Lib.hid (fun w => slot_calls f x w hfx)
  have HD2 := Lib.hid (fun w => slot_calls f y w hfy)
  have hn := fit_len hfx
  have hn2 : ((x.length : Int) != f.page) = false := bne_of hn
  have hk := fit_len hfy
  have hk2 : ((y.length : Int) != f.page) = false := bne_of hk
  generalize Mt.told f (Mt.sect f x) = a at *
  generalize Mt.told f (Mt.sect f y) = b at *
  generalize (Mt.kind f (Mt.sect f x) : Int) = j at *
  generalize (Mt.kind f (Mt.sect f y) : Int) = k at *
  have Ha := Lib.hid ha.sum
  have Hb := Lib.hid hb.sum
  have hap : IntKind.i64.wrap (a.pages : Int) = (a.pages : Int) := IntWalk.i64_in _ (by have := ha.pages; omega)
  have hbp : IntKind.i64.wrap (b.pages : Int) = (b.pages : Int) := IntWalk.i64_in _ (by have := hb.pages; omega)
  clear hm hfx hfy ha hb
  go_enter Tryd.func19, Tryd.ntmps19
  go_wp2_with fail
  refine (mayframe_calls f.page f.width _).mono ?_
  rintro e w1 ⟨rfl, hc⟩
  rw [Hm.out]
  have D := Dc.new hc
  clear hc
  have f0 := D.f0
  have f1 := D.f1
  go_wp2_with fail
  refine (HD1.out _).mono ?_
  rintro e w2 ⟨rfl, hc⟩
  have D2 := D.quiet hc
  clear hc D f0 f1
  obtain ⟨wy, st1, D3, kA⟩ := D2.one a Ha.out
  clear D2
  have f0 := D3.f0
  have f1 := D3.f1
  go_wp2_with fail
  refine (HD2.out _).mono ?_
  rintro e w3 ⟨rfl, hc⟩
  have D4 := D3.quiet hc
  have kA := kA.chg hc (fun h => h)
  have hlt := kA.lt
  clear hc D3 f0 f1 st1
  obtain ⟨wz, st1, D5, kB⟩ := D4.one b Hb.out
  have kA : Blk wz w2.heap.size 31 (mcells a) := by
    have h1 := stM_of (Blk.new w3 31 (mcells Mt.zero)) (mcells_size _ rfl) b Hb.out
    have h2 := st1.symm.trans h1
    injection h2 with _ h2
    subst h2
    exact (kA.alloc _).setRow_far (by omega) _
  clear D4 hlt
  obtain ⟨a0, a1, a2⟩ := blkM kA Ha.out
  obtain ⟨b0, b1, b2⟩ := blkM kB Hb.out
  have st0 := D5.st0
  have stt := D5.st2
  have sta := D5.st rfl a Ha.out
  have stb := D5.st rfl b Hb.out
  have ld := D5.ld
  rcases HJ.out with rfl | rfl | rfl | rfl <;> rcases HK.out with rfl | rfl | rfl | rfl
  · have HR := Lib.hid (show pickC a b 0 0 pages = (Mt.two, 0, 0) by unfold pickC; rw [if_neg (by omega), if_neg (by omega), if_neg (by omega), if_pos (by omega)])
    go_wp2_with fail
    have D2 := D5.set_ Mt.two
    refine bodyPost_ret (v := .tuple #[.agg (mcells Mt.two), .int .u32 0, .int .i64 0]) (results_row_tmp_tmp rfl _ _ (w.heap.size + 1) _ _ _ _ _ rfl rfl rfl D2.m Tryd.underlying31 rfl (by rw [mcells_size _ rfl]; exact size_meta)) rfl ⟨ret_pick (HP.out.trans HR.out), D2.chg⟩
  · by_cases pb : (b.pages : Int) ≤ pages
    · have HR := Lib.hid (show pickC a b 0 1 pages = (b, 0, 0) by unfold pickC; rw [if_neg (by omega), if_pos (by omega)])
      have t2 : decide ((b.pages : Int) ≤ pages) = true := by simpa using pb
      clear pb
      go_wp2_with fail
      have D2 := D5.set_ b
      refine bodyPost_ret (v := .tuple #[.agg (mcells b), .int .u32 0, .int .i64 0]) (results_row_tmp_tmp rfl _ _ (w.heap.size + 1) _ _ _ _ _ rfl rfl rfl D2.m Tryd.underlying31 rfl (by rw [mcells_size _ Hb.out]; exact size_meta)) rfl ⟨ret_pick (HP.out.trans HR.out), D2.chg⟩
    · have HR := Lib.hid (show pickC a b 0 1 pages = (Mt.zero, 0, 61) by unfold pickC; rw [if_neg (by omega), if_neg (by omega), if_neg (by omega), if_neg (by omega)])
      have t2 : decide ((b.pages : Int) ≤ pages) = false := by simpa using pb
      clear pb
      go_wp2_with fail
      have D2 := D5.set_ Mt.zero
      refine bodyPost_ret (v := .tuple #[.agg (mcells Mt.zero), .int .u32 0, .int .i64 61]) (results_row_tmp_tmp rfl _ _ (w.heap.size + 1) _ _ _ _ _ rfl rfl rfl D2.m Tryd.underlying31 rfl (by rw [mcells_size _ rfl]; exact size_meta)) rfl ⟨ret_pick (HP.out.trans HR.out), D2.chg⟩
  · have HR := Lib.hid (show pickC a b 0 2 pages = (Mt.zero, 0, 60) by unfold pickC; rw [if_neg (by omega), if_neg (by omega), if_pos (by omega)])
    go_wp2_with fail
    have D2 := D5.set_ Mt.zero
    refine bodyPost_ret (v := .tuple #[.agg (mcells Mt.zero), .int .u32 0, .int .i64 60]) (results_row_tmp_tmp rfl _ _ (w.heap.size + 1) _ _ _ _ _ rfl rfl rfl D2.m Tryd.underlying31 rfl (by rw [mcells_size _ rfl]; exact size_meta)) rfl ⟨ret_pick (HP.out.trans HR.out), D2.chg⟩
  · have HR := Lib.hid (show pickC a b 0 3 pages = (Mt.zero, 0, 61) by unfold pickC; rw [if_neg (by omega), if_neg (by omega), if_neg (by omega), if_neg (by omega)])
    go_wp2_with fail
    have D2 := D5.set_ Mt.zero
    refine bodyPost_ret (v := .tuple #[.agg (mcells Mt.zero), .int .u32 0, .int .i64 61]) (results_row_tmp_tmp rfl _ _ (w.heap.size + 1) _ _ _ _ _ rfl rfl rfl D2.m Tryd.underlying31 rfl (by rw [mcells_size _ rfl]; exact size_meta)) rfl ⟨ret_pick (HP.out.trans HR.out), D2.chg⟩
  · by_cases pa : (a.pages : Int) ≤ pages
    · have HR := Lib.hid (show pickC a b 1 0 pages = (a, 1, 0) by unfold pickC; rw [if_pos (by omega)])
      have t1 : decide ((a.pages : Int) ≤ pages) = true := by simpa using pa
      clear pa
      go_wp2_with fail
      have D2 := D5.set_ a
      refine bodyPost_ret (v := .tuple #[.agg (mcells a), .int .u32 1, .int .i64 0]) (results_row_tmp_tmp rfl _ _ (w.heap.size + 1) _ _ _ _ _ rfl rfl rfl D2.m Tryd.underlying31 rfl (by rw [mcells_size _ Ha.out]; exact size_meta)) rfl ⟨ret_pick (HP.out.trans HR.out), D2.chg⟩
    · have HR := Lib.hid (show pickC a b 1 0 pages = (Mt.zero, 0, 61) by unfold pickC; rw [if_neg (by omega), if_neg (by omega), if_neg (by omega), if_neg (by omega)])
      have t1 : decide ((a.pages : Int) ≤ pages) = false := by simpa using pa
      clear pa
      go_wp2_with fail
      have D2 := D5.set_ Mt.zero
      refine bodyPost_ret (v := .tuple #[.agg (mcells Mt.zero), .int .u32 0, .int .i64 61]) (results_row_tmp_tmp rfl _ _ (w.heap.size + 1) _ _ _ _ _ rfl rfl rfl D2.m Tryd.underlying31 rfl (by rw [mcells_size _ rfl]; exact size_meta)) rfl ⟨ret_pick (HP.out.trans HR.out), D2.chg⟩
  · by_cases pa : (a.pages : Int) ≤ pages <;> by_cases pb : (b.pages : Int) ≤ pages
    · by_cases pv : b.ver ≤ a.ver
      · have HR := Lib.hid (show pickC a b 1 1 pages = (a, 1, 0) by unfold pickC; rw [if_pos (by omega)])
        have t1 : decide ((a.pages : Int) ≤ pages) = true := by simpa using pa
        have t2 : decide ((b.pages : Int) ≤ pages) = true := by simpa using pb
        have t3 : decide (b.ver ≤ a.ver) = true := by simpa using pv
        clear pa pb pv
        go_wp2_with fail
        have D2 := D5.set_ a
        refine bodyPost_ret (v := .tuple #[.agg (mcells a), .int .u32 1, .int .i64 0]) (results_row_tmp_tmp rfl _ _ (w.heap.size + 1) _ _ _ _ _ rfl rfl rfl D2.m Tryd.underlying31 rfl (by rw [mcells_size _ Ha.out]; exact size_meta)) rfl ⟨ret_pick (HP.out.trans HR.out), D2.chg⟩
      · have HR := Lib.hid (show pickC a b 1 1 pages = (b, 0, 0) by unfold pickC; rw [if_neg (by omega), if_pos (by omega)])
        have t1 : decide ((a.pages : Int) ≤ pages) = true := by simpa using pa
        have t2 : decide ((b.pages : Int) ≤ pages) = true := by simpa using pb
        have t3 : decide (b.ver ≤ a.ver) = false := by simpa using pv
        clear pa pb pv
        go_wp2_with fail
        have D2 := D5.set_ b
        refine bodyPost_ret (v := .tuple #[.agg (mcells b), .int .u32 0, .int .i64 0]) (results_row_tmp_tmp rfl _ _ (w.heap.size + 1) _ _ _ _ _ rfl rfl rfl D2.m Tryd.underlying31 rfl (by rw [mcells_size _ Hb.out]; exact size_meta)) rfl ⟨ret_pick (HP.out.trans HR.out), D2.chg⟩
    · have HR := Lib.hid (show pickC a b 1 1 pages = (a, 1, 0) by unfold pickC; rw [if_pos (by omega)])
      have t1 : decide ((a.pages : Int) ≤ pages) = true := by simpa using pa
      have t2 : decide ((b.pages : Int) ≤ pages) = false := by simpa using pb
      clear pa pb
      go_wp2_with fail
      have D2 := D5.set_ a
      refine bodyPost_ret (v := .tuple #[.agg (mcells a), .int .u32 1, .int .i64 0]) (results_row_tmp_tmp rfl _ _ (w.heap.size + 1) _ _ _ _ _ rfl rfl rfl D2.m Tryd.underlying31 rfl (by rw [mcells_size _ Ha.out]; exact size_meta)) rfl ⟨ret_pick (HP.out.trans HR.out), D2.chg⟩
    · have HR := Lib.hid (show pickC a b 1 1 pages = (b, 0, 0) by unfold pickC; rw [if_neg (by omega), if_pos (by omega)])
      have t1 : decide ((a.pages : Int) ≤ pages) = false := by simpa using pa
      have t2 : decide ((b.pages : Int) ≤ pages) = true := by simpa using pb
      clear pa pb
      go_wp2_with fail
      have D2 := D5.set_ b
      refine bodyPost_ret (v := .tuple #[.agg (mcells b), .int .u32 0, .int .i64 0]) (results_row_tmp_tmp rfl _ _ (w.heap.size + 1) _ _ _ _ _ rfl rfl rfl D2.m Tryd.underlying31 rfl (by rw [mcells_size _ Hb.out]; exact size_meta)) rfl ⟨ret_pick (HP.out.trans HR.out), D2.chg⟩
    · have HR := Lib.hid (show pickC a b 1 1 pages = (Mt.zero, 0, 61) by unfold pickC; rw [if_neg (by omega), if_neg (by omega), if_neg (by omega), if_neg (by omega)])
      have t1 : decide ((a.pages : Int) ≤ pages) = false := by simpa using pa
      have t2 : decide ((b.pages : Int) ≤ pages) = false := by simpa using pb
      clear pa pb
      go_wp2_with fail
      have D2 := D5.set_ Mt.zero
      refine bodyPost_ret (v := .tuple #[.agg (mcells Mt.zero), .int .u32 0, .int .i64 61]) (results_row_tmp_tmp rfl _ _ (w.heap.size + 1) _ _ _ _ _ rfl rfl rfl D2.m Tryd.underlying31 rfl (by rw [mcells_size _ rfl]; exact size_meta)) rfl ⟨ret_pick (HP.out.trans HR.out), D2.chg⟩
  · by_cases pa : (a.pages : Int) ≤ pages
    · have HR := Lib.hid (show pickC a b 1 2 pages = (a, 1, 0) by unfold pickC; rw [if_pos (by omega)])
      have t1 : decide ((a.pages : Int) ≤ pages) = true := by simpa using pa
      clear pa
      go_wp2_with fail
      have D2 := D5.set_ a
      refine bodyPost_ret (v := .tuple #[.agg (mcells a), .int .u32 1, .int .i64 0]) (results_row_tmp_tmp rfl _ _ (w.heap.size + 1) _ _ _ _ _ rfl rfl rfl D2.m Tryd.underlying31 rfl (by rw [mcells_size _ Ha.out]; exact size_meta)) rfl ⟨ret_pick (HP.out.trans HR.out), D2.chg⟩
    · have HR := Lib.hid (show pickC a b 1 2 pages = (Mt.zero, 0, 60) by unfold pickC; rw [if_neg (by omega), if_neg (by omega), if_pos (by omega)])
      have t1 : decide ((a.pages : Int) ≤ pages) = false := by simpa using pa
      clear pa
      go_wp2_with fail
      have D2 := D5.set_ Mt.zero
      refine bodyPost_ret (v := .tuple #[.agg (mcells Mt.zero), .int .u32 0, .int .i64 60]) (results_row_tmp_tmp rfl _ _ (w.heap.size + 1) _ _ _ _ _ rfl rfl rfl D2.m Tryd.underlying31 rfl (by rw [mcells_size _ rfl]; exact size_meta)) rfl ⟨ret_pick (HP.out.trans HR.out), D2.chg⟩
  · by_cases pa : (a.pages : Int) ≤ pages
    · have HR := Lib.hid (show pickC a b 1 3 pages = (a, 1, 0) by unfold pickC; rw [if_pos (by omega)])
      have t1 : decide ((a.pages : Int) ≤ pages) = true := by simpa using pa
      clear pa
      go_wp2_with fail
      have D2 := D5.set_ a
      refine bodyPost_ret (v := .tuple #[.agg (mcells a), .int .u32 1, .int .i64 0]) (results_row_tmp_tmp rfl _ _ (w.heap.size + 1) _ _ _ _ _ rfl rfl rfl D2.m Tryd.underlying31 rfl (by rw [mcells_size _ Ha.out]; exact size_meta)) rfl ⟨ret_pick (HP.out.trans HR.out), D2.chg⟩
    · have HR := Lib.hid (show pickC a b 1 3 pages = (Mt.zero, 0, 61) by unfold pickC; rw [if_neg (by omega), if_neg (by omega), if_neg (by omega), if_neg (by omega)])
      have t1 : decide ((a.pages : Int) ≤ pages) = false := by simpa using pa
      clear pa
      go_wp2_with fail
      have D2 := D5.set_ Mt.zero
      refine bodyPost_ret (v := .tuple #[.agg (mcells Mt.zero), .int .u32 0, .int .i64 61]) (results_row_tmp_tmp rfl _ _ (w.heap.size + 1) _ _ _ _ _ rfl rfl rfl D2.m Tryd.underlying31 rfl (by rw [mcells_size _ rfl]; exact size_meta)) rfl ⟨ret_pick (HP.out.trans HR.out), D2.chg⟩
  · have HR := Lib.hid (show pickC a b 2 0 pages = (Mt.zero, 0, 60) by unfold pickC; rw [if_neg (by omega), if_neg (by omega), if_pos (by omega)])
    go_wp2_with fail
    have D2 := D5.set_ Mt.zero
    refine bodyPost_ret (v := .tuple #[.agg (mcells Mt.zero), .int .u32 0, .int .i64 60]) (results_row_tmp_tmp rfl _ _ (w.heap.size + 1) _ _ _ _ _ rfl rfl rfl D2.m Tryd.underlying31 rfl (by rw [mcells_size _ rfl]; exact size_meta)) rfl ⟨ret_pick (HP.out.trans HR.out), D2.chg⟩
  · by_cases pb : (b.pages : Int) ≤ pages
    · have HR := Lib.hid (show pickC a b 2 1 pages = (b, 0, 0) by unfold pickC; rw [if_neg (by omega), if_pos (by omega)])
      have t2 : decide ((b.pages : Int) ≤ pages) = true := by simpa using pb
      clear pb
      go_wp2_with fail
      have D2 := D5.set_ b
      refine bodyPost_ret (v := .tuple #[.agg (mcells b), .int .u32 0, .int .i64 0]) (results_row_tmp_tmp rfl _ _ (w.heap.size + 1) _ _ _ _ _ rfl rfl rfl D2.m Tryd.underlying31 rfl (by rw [mcells_size _ Hb.out]; exact size_meta)) rfl ⟨ret_pick (HP.out.trans HR.out), D2.chg⟩
    · have HR := Lib.hid (show pickC a b 2 1 pages = (Mt.zero, 0, 60) by unfold pickC; rw [if_neg (by omega), if_neg (by omega), if_pos (by omega)])
      have t2 : decide ((b.pages : Int) ≤ pages) = false := by simpa using pb
      clear pb
      go_wp2_with fail
      have D2 := D5.set_ Mt.zero
      refine bodyPost_ret (v := .tuple #[.agg (mcells Mt.zero), .int .u32 0, .int .i64 60]) (results_row_tmp_tmp rfl _ _ (w.heap.size + 1) _ _ _ _ _ rfl rfl rfl D2.m Tryd.underlying31 rfl (by rw [mcells_size _ rfl]; exact size_meta)) rfl ⟨ret_pick (HP.out.trans HR.out), D2.chg⟩
  · have HR := Lib.hid (show pickC a b 2 2 pages = (Mt.zero, 0, 60) by unfold pickC; rw [if_neg (by omega), if_neg (by omega), if_pos (by omega)])
    go_wp2_with fail
    have D2 := D5.set_ Mt.zero
    refine bodyPost_ret (v := .tuple #[.agg (mcells Mt.zero), .int .u32 0, .int .i64 60]) (results_row_tmp_tmp rfl _ _ (w.heap.size + 1) _ _ _ _ _ rfl rfl rfl D2.m Tryd.underlying31 rfl (by rw [mcells_size _ rfl]; exact size_meta)) rfl ⟨ret_pick (HP.out.trans HR.out), D2.chg⟩
  · have HR := Lib.hid (show pickC a b 2 3 pages = (Mt.zero, 0, 60) by unfold pickC; rw [if_neg (by omega), if_neg (by omega), if_pos (by omega)])
    go_wp2_with fail
    have D2 := D5.set_ Mt.zero
    refine bodyPost_ret (v := .tuple #[.agg (mcells Mt.zero), .int .u32 0, .int .i64 60]) (results_row_tmp_tmp rfl _ _ (w.heap.size + 1) _ _ _ _ _ rfl rfl rfl D2.m Tryd.underlying31 rfl (by rw [mcells_size _ rfl]; exact size_meta)) rfl ⟨ret_pick (HP.out.trans HR.out), D2.chg⟩
  · have HR := Lib.hid (show pickC a b 3 0 pages = (Mt.zero, 0, 61) by unfold pickC; rw [if_neg (by omega), if_neg (by omega), if_neg (by omega), if_neg (by omega)])
    go_wp2_with fail
    have D2 := D5.set_ Mt.zero
    refine bodyPost_ret (v := .tuple #[.agg (mcells Mt.zero), .int .u32 0, .int .i64 61]) (results_row_tmp_tmp rfl _ _ (w.heap.size + 1) _ _ _ _ _ rfl rfl rfl D2.m Tryd.underlying31 rfl (by rw [mcells_size _ rfl]; exact size_meta)) rfl ⟨ret_pick (HP.out.trans HR.out), D2.chg⟩
  · by_cases pb : (b.pages : Int) ≤ pages
    · have HR := Lib.hid (show pickC a b 3 1 pages = (b, 0, 0) by unfold pickC; rw [if_neg (by omega), if_pos (by omega)])
      have t2 : decide ((b.pages : Int) ≤ pages) = true := by simpa using pb
      clear pb
      go_wp2_with fail
      have D2 := D5.set_ b
      refine bodyPost_ret (v := .tuple #[.agg (mcells b), .int .u32 0, .int .i64 0]) (results_row_tmp_tmp rfl _ _ (w.heap.size + 1) _ _ _ _ _ rfl rfl rfl D2.m Tryd.underlying31 rfl (by rw [mcells_size _ Hb.out]; exact size_meta)) rfl ⟨ret_pick (HP.out.trans HR.out), D2.chg⟩
    · have HR := Lib.hid (show pickC a b 3 1 pages = (Mt.zero, 0, 61) by unfold pickC; rw [if_neg (by omega), if_neg (by omega), if_neg (by omega), if_neg (by omega)])
      have t2 : decide ((b.pages : Int) ≤ pages) = false := by simpa using pb
      clear pb
      go_wp2_with fail
      have D2 := D5.set_ Mt.zero
      refine bodyPost_ret (v := .tuple #[.agg (mcells Mt.zero), .int .u32 0, .int .i64 61]) (results_row_tmp_tmp rfl _ _ (w.heap.size + 1) _ _ _ _ _ rfl rfl rfl D2.m Tryd.underlying31 rfl (by rw [mcells_size _ rfl]; exact size_meta)) rfl ⟨ret_pick (HP.out.trans HR.out), D2.chg⟩
  · have HR := Lib.hid (show pickC a b 3 2 pages = (Mt.zero, 0, 60) by unfold pickC; rw [if_neg (by omega), if_neg (by omega), if_pos (by omega)])
    go_wp2_with fail
    have D2 := D5.set_ Mt.zero
    refine bodyPost_ret (v := .tuple #[.agg (mcells Mt.zero), .int .u32 0, .int .i64 60]) (results_row_tmp_tmp rfl _ _ (w.heap.size + 1) _ _ _ _ _ rfl rfl rfl D2.m Tryd.underlying31 rfl (by rw [mcells_size _ rfl]; exact size_meta)) rfl ⟨ret_pick (HP.out.trans HR.out), D2.chg⟩
  · have HR := Lib.hid (show pickC a b 3 3 pages = (Mt.zero, 0, 61) by unfold pickC; rw [if_neg (by omega), if_neg (by omega), if_neg (by omega), if_neg (by omega)])
    go_wp2_with fail
    have D2 := D5.set_ Mt.zero
    refine bodyPost_ret (v := .tuple #[.agg (mcells Mt.zero), .int .u32 0, .int .i64 61]) (results_row_tmp_tmp rfl _ _ (w.heap.size + 1) _ _ _ _ _ rfl rfl rfl D2.m Tryd.underlying31 rfl (by rw [mcells_size _ rfl]; exact size_meta)) rfl ⟨ret_pick (HP.out.trans HR.out), D2.chg⟩
theorem rpick_calls (f : Mt.F) (x y : List UInt8) (pages : Int) (w : World) :
    Calls Tryd.prog 19 #[FV f, S x, S y, .int .i64 pages] w fun e w' => e = .returned (PV (pick f x y pages)) ∧ Chg (fun _ => False) w w' := by
  cases hm : Mt.mayF f
  · exact rpick_early f x y pages w (.inl hm)
  · rcases Int.lt_or_le pages 2 with hp | hp
    · exact rpick_early f x y pages w (.inr (.inl hp))
    · by_cases h : Mt.fit f x = true ∧ Mt.fit f y = true
      · exact rpick_full f x y pages w hm hp h.1 h.2
      · exact rpick_early f x y pages w (.inr (.inr h))
end Go.Proofs.YtlhdbkbgedlmnaaDoor
