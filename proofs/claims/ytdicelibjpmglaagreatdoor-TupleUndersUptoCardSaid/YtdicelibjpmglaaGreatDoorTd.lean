/-
  Layer 3: the program's look: the walk of items.
-/
import Derived.Test.YtdicelibjpmglaaGreatDoorTc
import Derived.Deep.DeepCutAuto
import Derived.Deep.RegionWith
import Derived.Deep.CutBlock
namespace Go.Proofs.YtdicelibjpmglaaGreatDoor
open Go.RowKit
set_option linter.unusedVariables false
set_option linter.unusedSimpArgs false
attribute [local go_sem] run_store_float
open Tp (It)

/-- below B all cells are as they were -/
def Keep (w0 : World) (B : Nat) (w : World) : Prop := (∀ p : Addr, p.block < B → w.cell? p = w0.cell? p) ∧ B ≤ w.heap.size
theorem Keep.refl (w : World) (B : Nat) (h : B ≤ w.heap.size) : Keep w B w := ⟨fun _ _ => rfl, h⟩
theorem Keep.chg {w0 w w' : World} {B : Nat} {Sx : Nat → Prop} (h : Keep w0 B w) (hc : Chg Sx w w') (hS : ∀ k, k < B → ¬ Sx k) : Keep w0 B w' :=
  ⟨fun p hp => (hc.cell (Nat.lt_of_lt_of_le hp h.2) (hS _ hp)).trans (h.1 p hp), Nat.le_trans h.2 hc.size⟩
theorem Row.of_keep {w0 w : World} {B : Nat} {v : Value} {l : List It} (h : Row w0 B v l) (hk : Keep w0 B w) : Row w B v l := h.keep hk.1
theorem keepCell' {S : Nat → Prop} {w w' : World} {p : Addr} {v : Value} (hc : Chg S w w') (hn : ¬ S p.block) (h : w.cell? p = some v) : w'.cell? p = some v := (hc.cell (World.block_lt_of_cell? _ _ h) hn).trans h

theorem look_many {k : Nat} {b : Bool} {n : Int} {f : Nat} {t : List UInt8} {ls l : List It} {d s : Nat} : Tp.look (.mk k b n f t ls :: l) d 64 s = (64, s, 31) := by unfold Tp.look; rw [if_pos rfl]
theorem look_bad {k : Nat} {b : Bool} {n : Int} {f : Nat} {t : List UInt8} {ls l : List It} {d i s : Nat} (h1 : i ≠ 64) (h2 : Tp.mayB k b n f t ls = false) : Tp.look (.mk k b n f t ls :: l) d i s = (i, s, 30) := by
  unfold Tp.look; rw [if_neg h1, if_pos h2]
theorem look_deep {b : Bool} {n : Int} {f : Nat} {t : List UInt8} {ls l : List It} {d i s : Nat} (h1 : i ≠ 64) (h2 : Tp.mayB 6 b n f t ls = true) (h3 : 8 ≤ d) : Tp.look (.mk 6 b n f t ls :: l) d i s = (i, s, 32) := by
  unfold Tp.look; rw [if_neg h1, if_neg (by rw [h2]; decide), if_pos ⟨rfl, h3⟩]
theorem look_in {k : Nat} {b : Bool} {n : Int} {f : Nat} {t : List UInt8} {ls l : List It} {d i s : Nat} (h1 : i ≠ 64) (h2 : Tp.mayB k b n f t ls = true) (h3 : k = 6 → d < 8) :
    Tp.look (.mk k b n f t ls :: l) d i s = if (Tp.look ls (d + 1) (i + 1) (s + Tp.len1 k n t)).2.2 = 0 then Tp.look l d (Tp.look ls (d + 1) (i + 1) (s + Tp.len1 k n t)).1 (Tp.look ls (d + 1) (i + 1) (s + Tp.len1 k n t)).2.1 else Tp.look ls (d + 1) (i + 1) (s + Tp.len1 k n t) := by
  rw [Tp.look, if_neg h1, if_neg (by rw [h2]; decide), if_neg (fun h => absurd (h3 h.1) (by omega))]

set_option maxHeartbeats 8000000 in
set_option maxRecDepth 100000 in
theorem look_calls {w0 : World} {B : Nat} {v : Value} {l : List It} (hrow : Row w0 B v l) : ∀ (w : World), Keep w0 B w → ∀ (g : Nat), B ≤ g → ∀ (i s d : Nat), i ≤ 64 → s + Tp.sz l ≤ 1000000000000 → d ≤ 9 → (d ≤ 8 ∨ l = []) → Blk w g 88 #[.int .i64 i, .int .i64 s] →
    Calls Tryz.prog 65 #[.pointer (some ⟨g, 0, none⟩), v, .int .i64 d] w fun e w' => e = .returned (.int .i64 (Tp.look l d i s).2.2) ∧ Blk w' g 88 #[.int .i64 (Tp.look l d i s).1, .int .i64 (Tp.look l d i s).2.1] ∧ Chg (fun k => k = g) w w' := by
  induction hrow with
  | nil A0 cap0 hcap0 =>
    intro w hk g hg i s d hi hs hd hd2 hb
    go_enter Tryz.func65, Tryz.ntmps65
    go_wp2_with fail
    go_loopw [12] (fun jv wr => jv = .int .i64 0 ∧ wr = w) (fun _ _ => 0)
    case atStart => exact ⟨rfl, rfl⟩
    case round =>
      obtain ⟨rfl, rfl⟩ := hrel
      go_wp2_with fail
      go_ret
      exact ⟨by simp [Tp.look], by simpa [Tp.look] using hb, Chg.refl _ _⟩
  | mk gr off cap l vs hgr hl hcap hc1 hin hcells hr ih =>
    intro w hk g hg i s d hi hs hd hd2 hb
    go_enter Tryz.func65, Tryz.ntmps65
    go_wp2_with fail
    go_loopw [12] (fun jv wr => ∃ (j i' s' : Nat), j ≤ l.length ∧ jv = .int .i64 j ∧ i' ≤ 64 ∧ s' + Tp.sz (l.drop j) ≤ 1000000000000 ∧ Tp.look l d i s = Tp.look (l.drop j) d i' s' ∧ Blk wr g 88 #[.int .i64 i', .int .i64 s'] ∧ Chg (fun k => k = g) w wr) (fun jv _ => l.length - (intOf jv).toNat)
    case atStart => exact ⟨0, i, s, by omega, rfl, hi, by simpa using hs, by simp, hb, Chg.refl _ _⟩
    case round =>
      obtain ⟨j, i', s', hj, rfl, hi', hs', hlk, hb', hc'⟩ := hrel
      rcases Nat.lt_or_ge j l.length with hlt | hge
      · obtain ⟨⟨xk, xb, xn, xf, xt, xl⟩, hx⟩ : ∃ x, l[j]? = some x := ⟨_, List.getElem?_eq_getElem hlt⟩
        obtain ⟨xv, hxv⟩ : ∃ v, vs[j]? = some v := ⟨_, List.getElem?_eq_getElem (by omega)⟩
        have hd8 : d ≤ 8 := by
          rcases hd2 with h | h
          · exact h
          · subst h; simp at hlt
        have hdr : l.drop j = It.mk xk xb xn xf xt xl :: l.drop (j + 1) := by
          rw [List.drop_eq_getElem_cons hlt]
          congr 1
          exact (List.getElem?_eq_some_iff.1 hx).2
        have hin1 := hin xk xb xn xf xt xl (List.mem_of_getElem? hx)
        have hk' := hk.chg hc' (fun k hkB e => by omega)
        have hcell : ∀ q u, (icells xk xb xn xf xt xv)[q]? = some u → wr.cell? ⟨gr, off + j * 6 + q, none⟩ = some u := fun q u hq => by
          rw [hk'.1 _ hgr]; exact hcells j xk xb xn xf xt xl xv hx hxv q u hq
        have c0 := hcell 0 _ rfl
        have c1 := hcell 1 _ rfl
        have c2 := hcell 2 _ rfl
        have c3 := hcell 3 _ rfl
        have c4 := hcell 4 _ rfl
        have c5 := hcell 5 _ rfl
        obtain ⟨A, xcap, rfl, hxc1, hxc2⟩ := (hr j xk xb xn xf xt xl xv hx hxv).slice
        have b0 : wr.cell? ⟨g, 0, none⟩ = some (.int .i64 i') := by rw [hb'.cell]; rfl
        have b1 : wr.cell? ⟨g, 1, none⟩ = some (.int .i64 s') := by rw [hb'.cell]; rfl
        have z0 := hb'.frozen 0
        have z1 := hb'.frozen 1
        have ba0 : ∀ o, (wr.alloc o).cell? ⟨g, 0, none⟩ = some (.int .i64 i') := fun o => by rw [(hb'.alloc o).cell]; rfl
        have ba1 : ∀ o, (wr.alloc o).cell? ⟨g, 1, none⟩ = some (.int .i64 s') := fun o => by rw [(hb'.alloc o).cell]; rfl
        have za0 : ∀ o, (wr.alloc o).frozen? ⟨g, 0, none⟩ = false := fun o => (hb'.alloc o).frozen 0
        have za1 : ∀ o, (wr.alloc o).frozen? ⟨g, 1, none⟩ = false := fun o => (hb'.alloc o).frozen 1
        have hgl := hb'.lt
        have Hin := Lib.hid hin1
        have Hlk := Lib.hid hlk
        have Hdr := Lib.hid hdr
        have Hk' := Lib.hid hk'
        have Hk := Lib.hid hk
        have Hin0 := Lib.hid hin
        have Hcells := Lib.hid hcells
        have Hr := Lib.hid hr
        have Ih := Lib.hid ih
        have Hx := Lib.hid hx
        have Hxv := Lib.hid hxv
        have Hb' := Lib.hid hb'
        have Hc' := Lib.hid hc'
        have Hb := Lib.hid hb
        have Hl := Lib.hid hl
        clear hin1 hlk hdr hk' hk hin hcells hr ih hx hxv hb' hc' hb hl hcell
        rw [Nat.add_zero] at c0
        have Hcl := Lib.hid (fun w => clean_calls xk xb xn xf xt A xl.length xcap xl rfl w)
        obtain ⟨cl, hcl⟩ : ∃ cl, Tp.cleanB xk xb xn xf xt xl = cl := ⟨_, rfl⟩
        rw [hcl] at Hcl
        have Hclq := Lib.hid hcl
        clear hcl
        have hgn : g ≠ wr.heap.size := fun h => by omega
        have hgn' : wr.heap.size ≠ g := fun h => by omega
        go_upto_block 2 with fail
        go_cut [8] (fun a wx => ∃ p, a = .pointer (some ⟨p, 0, none⟩) ∧ p ≠ g ∧ w.heap.size ≤ p ∧ i' < 64 ∧ Tp.mayB xk xb xn xf xt xl = true ∧ (xk = 6 → d < 8) ∧ Blk wx g 88 #[.int .i64 i', .int .i64 s'] ∧ Blk wx p 40 #[.int .u8 xk, .bool xb, .int .i64 xn, .float .f64 xf, S xt, .slice A xl.length xcap] ∧ Chg (fun k => k = g) w wx)
        case first =>
          rcases Nat.lt_or_ge i' 64 with hlt64 | hge64
          · have b64 : ((i' : Int) == 64) = false := by rw [beq_eq_false_iff_ne]; omega
            rcases (show xk = 0 ∨ 7 ≤ xk ∨ (1 ≤ xk ∧ xk ≤ 6) by omega) with rfl | h7 | ⟨hk1, hk6⟩
            · go_wp2_with fail
              go_ret
              have hlk := Hlk.out
              rw [Hdr.out, look_bad (by omega) rfl] at hlk
              refine ⟨ret_int (by rw [hlk]), ?_, (Hc'.out).alloc _⟩
              rw [hlk]
              exact (Hb'.out).alloc _
            · have g1 : decide ((xk : Int) < 1) = false := by rw [decide_eq_false_iff_not]; omega
              have g2 : decide (6 < (xk : Int)) = true := by rw [decide_eq_true_iff]; omega
              have H7 := Lib.hid h7
              clear h7
              go_wp2_with fail
              go_ret
              have hlk := Hlk.out
              have hm : Tp.mayB xk xb xn xf xt xl = false := by
                have := H7.out
                unfold Tp.mayB Tp.fitB
                rw [decide_eq_false (by omega)]; rfl
              rw [Hdr.out, look_bad (by omega) hm] at hlk
              refine ⟨ret_int (by rw [hlk]), ?_, (Hc'.out).alloc _⟩
              rw [hlk]
              exact (Hb'.out).alloc _
            · have g1 : decide ((xk : Int) < 1) = false := by rw [decide_eq_false_iff_not]; omega
              have g2 : decide (6 < (xk : Int)) = false := by rw [decide_eq_false_iff_not]; omega
              have hm : Tp.mayB xk xb xn xf xt xl = cl := by
                unfold Tp.mayB Tp.fitB
                rw [decide_eq_true (by omega), Hclq.out]; rfl
              have Hm := Lib.hid hm
              have Hkk := Lib.hid (And.intro hk1 hk6)
              clear hm hk1
              cases cl
              · go_wp2_with fail
                refine (Hcl.out _).mono ?_
                rintro e w2 ⟨rfl, hc2⟩
                go_wp2_with fail
                go_ret
                have hlk := Hlk.out
                rw [Hdr.out, look_bad (by omega) Hm.out] at hlk
                have hcx := ((Hc'.out).alloc _).andThen hc2 (fun _ _ h => h.elim)
                refine ⟨ret_int (by rw [hlk]), ?_, hcx⟩
                rw [hlk]
                exact ((Hb'.out).alloc _).chg hc2 (fun h => h)
              · have ip0 := Lib.hid (show ∀ w2, Chg (fun _ => False) (wr.alloc (.cells #[.int .u8 xk, .bool xb, .int .i64 xn, .float .f64 xf, S xt, .slice A xl.length xcap] 40)) w2 → w2.cell? ⟨wr.heap.size, 0, none⟩ = some (.int .u8 xk) from fun w2 hc => keepCell' hc (fun h => h) (by rw [(Blk.new wr _ _).cell]; rfl))
                rcases (show xk = 6 ∧ 8 ≤ d ∨ xk ≠ 6 ∨ xk = 6 ∧ d < 8 by omega) with ⟨rfl, hd8'⟩ | hk6' | ⟨rfl, hd8'⟩
                · have d8 : decide (8 ≤ (d : Int)) = true := by rw [decide_eq_true_iff]; omega
                  go_wp2_with fail
                  refine (Hcl.out _).mono ?_
                  rintro e w2 ⟨rfl, hc2⟩
                  have iq0 := ip0.out _ hc2
                  clear ip0
                  go_wp2_with fail
                  go_ret
                  have hlk := Hlk.out
                  rw [Hdr.out, look_deep (by omega) Hm.out hd8'] at hlk
                  have hcx := ((Hc'.out).alloc _).andThen hc2 (fun _ _ h => h.elim)
                  refine ⟨ret_int (by rw [hlk]), ?_, hcx⟩
                  rw [hlk]
                  exact ((Hb'.out).alloc _).chg hc2 (fun h => h)
                · have k6 : ((xk : Int) == 6) = false := by rw [beq_eq_false_iff_ne]; omega
                  go_wp2_with fail
                  refine (Hcl.out _).mono ?_
                  rintro e w2 ⟨rfl, hc2⟩
                  have iq0 := ip0.out _ hc2
                  clear ip0
                  go_wp2_with fail
                  go_meet
                  have hcx := ((Hc'.out).alloc _).andThen hc2 (fun _ _ h => h.elim)
                  exact ⟨wr.heap.size, rfl, hgn', Hc'.out.size, hlt64, Hm.out, fun h => absurd h hk6', ((Hb'.out).alloc _).chg hc2 (fun h => h), (Blk.new wr _ _).chg hc2 (fun h => h), hcx⟩
                · have d8 : decide (8 ≤ (d : Int)) = false := by rw [decide_eq_false_iff_not]; omega
                  go_wp2_with fail
                  refine (Hcl.out _).mono ?_
                  rintro e w2 ⟨rfl, hc2⟩
                  have iq0 := ip0.out _ hc2
                  clear ip0
                  go_wp2_with fail
                  go_meet
                  have hcx := ((Hc'.out).alloc _).andThen hc2 (fun _ _ h => h.elim)
                  exact ⟨wr.heap.size, rfl, hgn', Hc'.out.size, hlt64, Hm.out, fun _ => hd8', ((Hb'.out).alloc _).chg hc2 (fun h => h), (Blk.new wr _ _).chg hc2 (fun h => h), hcx⟩
          · obtain rfl : i' = 64 := by omega
            go_wp2_with fail
            go_ret
            have hlk := Hlk.out
            rw [Hdr.out, look_many] at hlk
            refine ⟨ret_int (by rw [hlk]), ?_, (Hc'.out).alloc _⟩
            rw [hlk]
            exact (Hb'.out).alloc _
        case rest =>
          obtain ⟨p, rfl, hpg, hpw, hi64, hmay, hk6, hbg, hbp, hcx⟩ := hcut
          have p0 : wc.cell? ⟨g, 0, none⟩ = some (.int .i64 i') := by rw [hbg.cell]; rfl
          have f0 := hbg.frozen 0
          have hi65 : (i' : Int) < 64 := by omega
          have Hbg := Lib.hid hbg
          have Hbp := Lib.hid hbp
          have Hcx := Lib.hid hcx
          have Hmay := Lib.hid hmay
          have Hk6 := Lib.hid hk6
          clear hbg hbp hcx hmay hk6 b0 b1 ba0 ba1 za0 za1 z0 z1 c0 c1 c2 c3 c4 c5
          go_upto_region 10 with fail
          go_cut [] (fun wx => Blk wx g 88 #[.int .i64 (i' + 1 : Nat), .int .i64 s'] ∧ Blk wx p 40 #[.int .u8 xk, .bool xb, .int .i64 xn, .float .f64 xf, S xt, .slice A xl.length xcap] ∧ Chg (fun k => k = g) w wx)
          case first =>
            go_wp2_with fail
            go_meet
            exact ⟨(Hbg.out).set_ 0 _, (Hbp.out).far hpg _, (Hcx.out).setCell (.inl rfl) _⟩
          case rest =>
            clear p0 f0 Hbg Hbp Hcx
            obtain ⟨hbg, hbp, hcx⟩ := hcut
            have p1 : wc.cell? ⟨g, 1, none⟩ = some (.int .i64 s') := by rw [hbg.cell]; rfl
            have f1 := hbg.frozen 1
            have q0 : wc.cell? ⟨p, 0, none⟩ = some (.int .u8 xk) := by rw [hbp.cell]; rfl
            have q1 : wc.cell? ⟨p, 1, none⟩ = some (.bool xb) := by rw [hbp.cell]; rfl
            have q2 : wc.cell? ⟨p, 2, none⟩ = some (.int .i64 xn) := by rw [hbp.cell]; rfl
            have q3 : wc.cell? ⟨p, 3, none⟩ = some (.float .f64 xf) := by rw [hbp.cell]; rfl
            have q4 : wc.cell? ⟨p, 4, none⟩ = some (S xt) := by rw [hbp.cell]; rfl
            have q5 : wc.cell? ⟨p, 5, none⟩ = some (.slice A xl.length xcap) := by rw [hbp.cell]; rfl
            have Hlen := Lib.hid (fun w => length_calls xk xb xn xf xt (.slice A xl.length xcap) rfl Hin.out w)
            obtain ⟨z, hz⟩ : ∃ z : Nat, Tp.len1 xk xn xt = z := ⟨_, rfl⟩
            rw [hz] at Hlen
            have Hz := Lib.hid hz
            have hsz : s' + (z + Tp.sz xl + Tp.sz (l.drop (j + 1))) ≤ 1000000000000 := by
              rw [Hdr.out] at hs'
              simp only [Tp.sz] at hs'
              rw [hz] at hs'
              exact hs'
            have Hsz := Lib.hid hsz
            have hw1 : IntKind.i64.wrap ((s' : Int) + (z : Int)) = ((s' + z : Nat) : Int) := by rw [IntWalk.i64_in _ (by omega)]; rfl
            have Hbg := Lib.hid hbg
            have Hbp := Lib.hid hbp
            have Hcx := Lib.hid hcx
            clear hbg hbp hcx hsz hz
            go_upto_region 11 with fail
            go_cut [] (fun wx => Blk wx g 88 #[.int .i64 (i' + 1 : Nat), .int .i64 (s' + z : Nat)] ∧ Blk wx p 40 #[.int .u8 xk, .bool xb, .int .i64 xn, .float .f64 xf, S xt, .slice A xl.length xcap] ∧ Chg (fun k => k = g) w wx)
            case first =>
              go_region_with ((go_at_call 91); refine (Hlen.out _).mono ?_; rintro e w2 ⟨rfl, hc2⟩; have r1 := keepCell' hc2 (fun h => h) p1; have s1 := (Chg.frozen hc2 (p := ⟨g, 1, none⟩) (World.block_lt_of_cell? _ _ p1) (fun h => h)).trans f1)
              all_goals
                go_wp2_with fail
                go_meet
                have hcy := (Hcx.out).drew.andThen hc2 (fun _ _ h => h.elim)
                exact ⟨((Hbg.out).drew.chg hc2 (fun h => h)).set_ 1 _, ((Hbp.out).drew.chg hc2 (fun h => h)).far hpg _, hcy.setCell (.inl rfl) _⟩
            case rest =>
              clear p1 f1 q0 q1 q2 q3 q4 q5 Hbg Hbp Hcx Hlen
              obtain ⟨hbg, hbp, hcx⟩ := hcut
              have q5 : wc.cell? ⟨p, 5, none⟩ = some (.slice A xl.length xcap) := by rw [hbp.cell]; rfl
              obtain ⟨⟨ri, rs, re⟩, hr⟩ : ∃ r, Tp.look xl (d + 1) (i' + 1) (s' + z) = r := ⟨_, rfl⟩
              have hle := Tp.look_le xl (d + 1) (i' + 1) (s' + z) (by omega)
              rw [hr] at hle
              have hd9 : d + 1 ≤ 8 ∨ xl = [] := by
                rcases Nat.lt_or_ge d 8 with h | h
                · exact .inl h
                · right
                  have hm := Hmay.out
                  unfold Tp.mayB Tp.cleanB at hm
                  simp only [Bool.and_eq_true, Bool.or_eq_true] at hm
                  rcases hm.2.2.2.2.2 with h6 | h6
                  · have h6' : xk = 6 := by simpa using h6
                    exact absurd (Hk6.out h6') (by omega)
                  · simpa using h6
              have HI := (Ih.out) j xk xb xn xf xt xl _ Hx.out Hxv.out wc (Hk.out.chg hcx (fun k hkB e => by omega)) g hg (i' + 1) (s' + z) (d + 1) (by omega) (by have := Hsz.out; omega) (by omega) hd9 hbg
              rw [hr] at HI
              have Hr0 := Lib.hid hr
              have Hcx := Lib.hid hcx
              have Hle := Lib.hid hle
              clear hbg hbp hcx hr hle hd9
              dsimp only at HI
              rw [show ((d + 1 : Nat) : Int) = (d : Int) + 1 from rfl] at HI
              go_wp2_with fail
              refine HI.mono ?_
              rintro e w2 ⟨rfl, hb2, hc2⟩
              have Hb2 := Lib.hid hb2
              have Hc2 := Lib.hid ((Hcx.out).andThen hc2 (fun _ _ h => h))
              clear HI hb2 hc2
              by_cases hre : re = 0
              · subst hre
                have Hlk2 := Lib.hid (show Tp.look l d i s = Tp.look (l.drop (j + 1)) d ri rs by
                  rw [Hlk.out, Hdr.out, look_in (by omega) Hmay.out Hk6.out, Hz.out, Hr0.out]; rfl)
                go_wp2_with fail
                go_round
                case rel =>
                  obtain ⟨a1, a2, a3, a4, a5⟩ := Hle.out
                  have hsz := Hsz.out
                  exact ⟨j + 1, ri, rs, by omega, by go_num, a2, by omega, Hlk2.out, Hb2.out, Hc2.out⟩
                case measure => simp [intOf]; omega
              · have hre2 : (re != 0) = true := by simpa using hre
                have hre3 : (re == 0) = false := by simpa using hre
                have Hlk2 := Lib.hid (show Tp.look l d i s = (ri, rs, re) by
                  rw [Hlk.out, Hdr.out, look_in (by omega) Hmay.out Hk6.out, Hz.out, Hr0.out]; exact if_neg hre)
                clear hre
                go_wp2_with fail
                go_ret
                rw [Hlk2.out]
                exact ⟨rfl, Hb2.out, Hc2.out⟩
      · have hjl : j = l.length := by omega
        have Hlk := Lib.hid (show Tp.look l d i s = (i', s', 0) by rw [hlk, hjl, List.drop_length]; simp [Tp.look])
        have Hb' := Lib.hid hb'
        have Hc' := Lib.hid hc'
        have hnl : ¬ ((j : Int) < (l.length : Int)) := by omega
        have hnl2 : decide ((j : Int) < (l.length : Int)) = false := by rw [decide_eq_false_iff_not]; omega
        clear hk hin hcells hr ih hb' hc' hb hl hlk
        go_wp2_with fail
        go_ret
        rw [Hlk.out]
        exact ⟨rfl, Hb'.out, Hc'.out⟩
end Go.Proofs.YtdicelibjpmglaaGreatDoor
