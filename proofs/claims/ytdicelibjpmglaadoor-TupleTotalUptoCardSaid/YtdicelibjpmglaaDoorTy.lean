/-
  Layer 3: the walk of TupleTotal.
-/
import Derived.Test.YtdicelibjpmglaaDoorTx
namespace Go.Proofs.YtdicelibjpmglaaDoor
open Go.RowKit
set_option linter.unusedVariables false
set_option linter.unusedSimpArgs false
attribute [local go_sem] run_store_float
open Tp (It)

namespace Tp
/-- of three texts: what the two orders say of the third -/
theorem cmpL_trans : ∀ (p q r : List UInt8), (cmpL p q ≤ 0 → cmpL q r ≤ 0 → cmpL p r = min (cmpL p q) (cmpL q r))
  | [], [], [] => by simp [cmpL]
  | [], [], _ :: _ => by simp only [cmpL]; omega
  | [], _ :: _, [] => by simp [cmpL]
  | _ :: _, [], _ => by simp [cmpL]
  | _ :: _, _ :: _, [] => by simp [cmpL]
  | [], b :: m, c :: n => by
    intro h1 h2
    have := cmpL_le' m n
    simp only [cmpL] at h2 ⊢
    split at h2
    · rename_i h; rw [if_pos h]; decide
    · rename_i h
      split at h2
      · exact absurd h2 (by decide)
      · rename_i h'; rw [if_neg h, if_neg h']; omega
  | a :: l, b :: m, c :: n => by
    intro h1 h2
    have ih := cmpL_trans l m n
    have hl := cmpL_le' m n
    have hk := cmpL_le' l m
    simp only [cmpL] at h1 h2 ⊢
    by_cases a1 : a.toNat < b.toNat
    · rw [if_pos a1] at h1 ⊢
      by_cases b1 : b.toNat < c.toNat
      · rw [if_pos b1, if_pos (by omega)]; decide
      · rw [if_neg b1] at h2 ⊢
        by_cases b2 : c.toNat < b.toNat
        · rw [if_pos b2] at h2; exact absurd h2 (by decide)
        · rw [if_neg b2] at h2 ⊢
          rw [if_pos (by omega)]; omega
    · rw [if_neg a1] at h1 ⊢
      by_cases a2 : b.toNat < a.toNat
      · rw [if_pos a2] at h1; exact absurd h1 (by decide)
      · rw [if_neg a2] at h1 ⊢
        by_cases b1 : b.toNat < c.toNat
        · rw [if_pos b1, if_pos (by omega)]; omega
        · rw [if_neg b1] at h2 ⊢
          by_cases b2 : c.toNat < b.toNat
          · rw [if_pos b2] at h2; exact absurd h2 (by decide)
          · rw [if_neg b2] at h2 ⊢
            rw [if_neg (by omega), if_neg (by omega)]
            exact ih h1 h2
where cmpL_le' : ∀ (p q : List UInt8), -1 ≤ cmpL p q ∧ cmpL p q ≤ 1
  | [], [] => by simp [cmpL]
  | [], _ :: _ => by simp [cmpL]
  | _ :: _, [] => by simp [cmpL]
  | a :: l, b :: m => by
    have ih := cmpL_le' l m
    simp only [cmpL]
    split
    · decide
    · split
      · decide
      · exact ih
theorem comp_cmp {x y : It} (hx : check [x] = 0) (hy : check [y] = 0) (ix : Ins [x]) (iy : Ins [y]) : comp x y = cmpL (pack [x]) (pack [y]) := by
  have k1 := (check_ok hx).2.2.1
  have k2 := (check_ok hy).2.2.1
  have s1 := side_cmp [x] [y] k1 k2 ix iy
  unfold pack comp
  rw [hx, hy, if_pos rfl, if_pos rfl, if_neg (by simp), s1]
  obtain ⟨k, b, n, f, t, ls⟩ := x
  obtain ⟨k', b', n', f', t', ls'⟩ := y
  rw [side_cons]
  simp only [side, held, lex]
  split <;> simp_all
end Tp

theorem s18 (ka : Nat) (ba : Bool) (na : Int) (fa : Nat) (ta : List UInt8) (Aa : Option Addr) (ma ca : Nat) (kb : Nat) (bb : Bool) (nb : Int) (fb : Nat) (tb : List UInt8) (Ab : Option Addr) (mb cb : Nat) (kc : Nat) (bc : Bool) (nc : Int) (fc : Nat) (tc : List UInt8) (Ac : Option Addr) (mc cc : Nat) {W w' : World} (ha : Blk w' W.heap.size 37 #[.int .u8 ka, .bool ba, .int .i64 na, .float .f64 fa, S ta, .slice Aa ma ca]) (hb : Blk w' (W.heap.size + 1) 37 #[.int .u8 kb, .bool bb, .int .i64 nb, .float .f64 fb, S tb, .slice Ab mb cb]) (hc : Blk w' (W.heap.size + 1 + 1) 37 #[.int .u8 kc, .bool bc, .int .i64 nc, .float .f64 fc, S tc, .slice Ac mc cc]) :
    w'.cell? ⟨W.heap.size, 0, none⟩ = some (.int .u8 ka) ∧ w'.cell? ⟨W.heap.size, 1, none⟩ = some (.bool ba) ∧ w'.cell? ⟨W.heap.size, 2, none⟩ = some (.int .i64 na) ∧ w'.cell? ⟨W.heap.size, 3, none⟩ = some (.float .f64 fa) ∧ w'.cell? ⟨W.heap.size, 4, none⟩ = some (S ta) ∧ w'.cell? ⟨W.heap.size, 5, none⟩ = some (.slice Aa ma ca) ∧ w'.cell? ⟨W.heap.size + 1, 0, none⟩ = some (.int .u8 kb) ∧ w'.cell? ⟨W.heap.size + 1, 1, none⟩ = some (.bool bb) ∧ w'.cell? ⟨W.heap.size + 1, 2, none⟩ = some (.int .i64 nb) ∧ w'.cell? ⟨W.heap.size + 1, 3, none⟩ = some (.float .f64 fb) ∧ w'.cell? ⟨W.heap.size + 1, 4, none⟩ = some (S tb) ∧ w'.cell? ⟨W.heap.size + 1, 5, none⟩ = some (.slice Ab mb cb) ∧ w'.cell? ⟨W.heap.size + 1 + 1, 0, none⟩ = some (.int .u8 kc) ∧ w'.cell? ⟨W.heap.size + 1 + 1, 1, none⟩ = some (.bool bc) ∧ w'.cell? ⟨W.heap.size + 1 + 1, 2, none⟩ = some (.int .i64 nc) ∧ w'.cell? ⟨W.heap.size + 1 + 1, 3, none⟩ = some (.float .f64 fc) ∧ w'.cell? ⟨W.heap.size + 1 + 1, 4, none⟩ = some (S tc) ∧ w'.cell? ⟨W.heap.size + 1 + 1, 5, none⟩ = some (.slice Ac mc cc) := by
  refine ⟨?_, ?_, ?_, ?_, ?_, ?_, ?_, ?_, ?_, ?_, ?_, ?_, ?_, ?_, ?_, ?_, ?_, ?_⟩
  all_goals (first | (rw [ha.cell]; rfl) | (rw [hb.cell]; rfl) | (rw [hc.cell]; rfl))

set_option maxHeartbeats 8000000 in
set_option maxRecDepth 100000 in
theorem tupleTotal_walk (ka : Nat) (ba : Bool) (na : Int) (fa : Nat) (ta : List UInt8) (Aa : Option Addr) (ma ca : Nat) (la : List It) (kb : Nat) (bb : Bool) (nb : Int) (fb : Nat) (tb : List UInt8) (Ab : Option Addr) (mb cb : Nat) (lb : List It) (kc : Nat) (bc : Bool) (nc : Int) (fc : Nat) (tc : List UInt8) (Ac : Option Addr) (mc cc : Nat) (lc : List It) (W : World) (hsh : W.ShapedOpen Tryd.prog)
    (ia : InIt ka na fa ta) (ra : Row W W.heap.size (.slice Aa ma ca) la) (za : Tp.sz [(It.mk ka ba na fa ta la)] ≤ 1000000000000) (ib : InIt kb nb fb tb) (rb : Row W W.heap.size (.slice Ab mb cb) lb) (zb : Tp.sz [(It.mk kb bb nb fb tb lb)] ≤ 1000000000000) (ic : InIt kc nc fc tc) (rc : Row W W.heap.size (.slice Ac mc cc) lc) (zc : Tp.sz [(It.mk kc bc nc fc tc lc)] ≤ 1000000000000) :
    Calls Tryd.prog 9 #[IV ka ba na fa ta (.slice Aa ma ca), IV kb bb nb fb tb (.slice Ab mb cb), IV kc bc nc fc tc (.slice Ac mc cc)] W fun e w' => e = .returned (.bool true) ∧ Chg (fun _ => False) W w' := by
  obtain ⟨mm, hm⟩ := (Tryd.laysM143).s1_3 W hsh
  have hlt := World.block_lt_of_cell? _ _ hm
  have KK : ∀ w2, Chg (fun _ => False) W w2 → Keep W W.heap.size w2 := fun w2 hc => (Keep.refl W _ (Nat.le_refl _)).chg hc (fun k hkB e => e)
  have AW : ∀ w2, Chg (fun _ => False) W w2 → Calls Tryd.prog 12 #[] w2 fun e w' => e = .returned (.bool true) ∧ Chg (fun _ => False) w2 w' := fun w2 hc => awake_calls w2 mm ((hc.cell hlt (fun h => h)).trans hm)
  have HA := Lib.hid AW
  have Pa := Lib.hid (fun w2 (hc : Chg (fun _ => False) W w2) => (pack_calls (Row.one (Blk.new w2 37 #[.int .u8 ka, .bool ba, .int .i64 na, .float .f64 fa, S ta, .slice Aa ma ca]) ia (ra.of_keep ((KK w2 hc).chg ((Chg.refl (fun _ => False) w2).alloc _) (fun k _ e => e))) hc.size) ⟨⟨mm, ((hc.alloc _).cell hlt (fun h => h)).trans hm⟩, Nat.lt_succ_of_lt (Nat.lt_of_lt_of_le hlt hc.size)⟩ _ (Keep.refl _ _ (by simp)) za))
  have Ca := Lib.hid (fun w2 (hc : Chg (fun _ => False) W w2) => (check_calls (Row.one (Blk.new w2 37 #[.int .u8 ka, .bool ba, .int .i64 na, .float .f64 fa, S ta, .slice Aa ma ca]) ia (ra.of_keep ((KK w2 hc).chg ((Chg.refl (fun _ => False) w2).alloc _) (fun k _ e => e))) hc.size) _ (Keep.refl _ _ (by simp)) za))
  have ja : Tp.Ins [(It.mk ka ba na fa ta la)] := by simp only [Tp.Ins]; exact ⟨⟨ia.n0, ia.n1, ia.f⟩, ra.ins, trivial⟩
  have Pb := Lib.hid (fun w2 (hc : Chg (fun _ => False) W w2) => (pack_calls (Row.one (Blk.new w2 37 #[.int .u8 kb, .bool bb, .int .i64 nb, .float .f64 fb, S tb, .slice Ab mb cb]) ib (rb.of_keep ((KK w2 hc).chg ((Chg.refl (fun _ => False) w2).alloc _) (fun k _ e => e))) hc.size) ⟨⟨mm, ((hc.alloc _).cell hlt (fun h => h)).trans hm⟩, Nat.lt_succ_of_lt (Nat.lt_of_lt_of_le hlt hc.size)⟩ _ (Keep.refl _ _ (by simp)) zb))
  have Cb := Lib.hid (fun w2 (hc : Chg (fun _ => False) W w2) => (check_calls (Row.one (Blk.new w2 37 #[.int .u8 kb, .bool bb, .int .i64 nb, .float .f64 fb, S tb, .slice Ab mb cb]) ib (rb.of_keep ((KK w2 hc).chg ((Chg.refl (fun _ => False) w2).alloc _) (fun k _ e => e))) hc.size) _ (Keep.refl _ _ (by simp)) zb))
  have jb : Tp.Ins [(It.mk kb bb nb fb tb lb)] := by simp only [Tp.Ins]; exact ⟨⟨ib.n0, ib.n1, ib.f⟩, rb.ins, trivial⟩
  have Pc := Lib.hid (fun w2 (hc : Chg (fun _ => False) W w2) => (pack_calls (Row.one (Blk.new w2 37 #[.int .u8 kc, .bool bc, .int .i64 nc, .float .f64 fc, S tc, .slice Ac mc cc]) ic (rc.of_keep ((KK w2 hc).chg ((Chg.refl (fun _ => False) w2).alloc _) (fun k _ e => e))) hc.size) ⟨⟨mm, ((hc.alloc _).cell hlt (fun h => h)).trans hm⟩, Nat.lt_succ_of_lt (Nat.lt_of_lt_of_le hlt hc.size)⟩ _ (Keep.refl _ _ (by simp)) zc))
  have Cc := Lib.hid (fun w2 (hc : Chg (fun _ => False) W w2) => (check_calls (Row.one (Blk.new w2 37 #[.int .u8 kc, .bool bc, .int .i64 nc, .float .f64 fc, S tc, .slice Ac mc cc]) ic (rc.of_keep ((KK w2 hc).chg ((Chg.refl (fun _ => False) w2).alloc _) (fun k _ e => e))) hc.size) _ (Keep.refl _ _ (by simp)) zc))
  have jc : Tp.Ins [(It.mk kc bc nc fc tc lc)] := by simp only [Tp.Ins]; exact ⟨⟨ic.n0, ic.n1, ic.f⟩, rc.ins, trivial⟩
  have Oab := Lib.hid (fun w2 (hc : Chg (fun _ => False) W w2) => compare_calls ka ba na fa ta _ la kb bb nb fb tb _ lb ia ib ra rb w2 (KK w2 hc) za zb)
  have Obc := Lib.hid (fun w2 (hc : Chg (fun _ => False) W w2) => compare_calls kb bb nb fb tb _ lb kc bc nc fc tc _ lc ib ic rb rc w2 (KK w2 hc) zb zc)
  have Oac := Lib.hid (fun w2 (hc : Chg (fun _ => False) W w2) => compare_calls ka ba na fa ta _ la kc bc nc fc tc _ lc ia ic ra rc w2 (KK w2 hc) za zc)
  have Oba := Lib.hid (fun w2 (hc : Chg (fun _ => False) W w2) => compare_calls kb bb nb fb tb _ lb ka ba na fa ta _ la ib ia rb ra w2 (KK w2 hc) zb za)
  have Na := Lib.hid (((Blk.new W 37 #[.int .u8 ka, .bool ba, .int .i64 na, .float .f64 fa, S ta, .slice Aa ma ca]).alloc (.cells #[.int .u8 kb, .bool bb, .int .i64 nb, .float .f64 fb, S tb, .slice Ab mb cb] 37)).alloc (.cells #[.int .u8 kc, .bool bc, .int .i64 nc, .float .f64 fc, S tc, .slice Ac mc cc] 37))
  have Nb := Lib.hid ((Blk.new' W (.cells #[.int .u8 ka, .bool ba, .int .i64 na, .float .f64 fa, S ta, .slice Aa ma ca] 37) 37 #[.int .u8 kb, .bool bb, .int .i64 nb, .float .f64 fb, S tb, .slice Ab mb cb]).alloc (.cells #[.int .u8 kc, .bool bc, .int .i64 nc, .float .f64 fc, S tc, .slice Ac mc cc] 37))
  have Nc := Lib.hid (Blk.new2 W (.cells #[.int .u8 ka, .bool ba, .int .i64 na, .float .f64 fa, S ta, .slice Aa ma ca] 37) (.cells #[.int .u8 kb, .bool bb, .int .i64 nb, .float .f64 fb, S tb, .slice Ab mb cb] 37) 37 #[.int .u8 kc, .bool bc, .int .i64 nc, .float .f64 fc, S tc, .slice Ac mc cc])
  obtain ⟨ea, hea⟩ : ∃ c, Tp.check [(It.mk ka ba na fa ta la)] = c := ⟨_, rfl⟩
  obtain ⟨pa, hpa⟩ : ∃ p, Tp.pack [(It.mk ka ba na fa ta la)] = p := ⟨_, rfl⟩
  obtain ⟨eb, heb⟩ : ∃ c, Tp.check [(It.mk kb bb nb fb tb lb)] = c := ⟨_, rfl⟩
  obtain ⟨pb, hpb⟩ : ∃ p, Tp.pack [(It.mk kb bb nb fb tb lb)] = p := ⟨_, rfl⟩
  obtain ⟨ec, hec⟩ : ∃ c, Tp.check [(It.mk kc bc nc fc tc lc)] = c := ⟨_, rfl⟩
  obtain ⟨pc, hpc⟩ : ∃ p, Tp.pack [(It.mk kc bc nc fc tc lc)] = p := ⟨_, rfl⟩
  have Hab := Lib.hid (fun (h1 : ea = 0) (h2 : eb = 0) => (Tp.comp_cmp (hea.trans h1) (heb.trans h2) ja jb).trans (by rw [hpa, hpb]))
  obtain ⟨oab, hoab⟩ : ∃ o, Tp.comp (It.mk ka ba na fa ta la) (It.mk kb bb nb fb tb lb) = o := ⟨_, rfl⟩
  rw [hoab] at Oab Hab
  have Hbc := Lib.hid (fun (h1 : eb = 0) (h2 : ec = 0) => (Tp.comp_cmp (heb.trans h1) (hec.trans h2) jb jc).trans (by rw [hpb, hpc]))
  obtain ⟨obc, hobc⟩ : ∃ o, Tp.comp (It.mk kb bb nb fb tb lb) (It.mk kc bc nc fc tc lc) = o := ⟨_, rfl⟩
  rw [hobc] at Obc Hbc
  have Hac := Lib.hid (fun (h1 : ea = 0) (h2 : ec = 0) => (Tp.comp_cmp (hea.trans h1) (hec.trans h2) ja jc).trans (by rw [hpa, hpc]))
  obtain ⟨oac, hoac⟩ : ∃ o, Tp.comp (It.mk ka ba na fa ta la) (It.mk kc bc nc fc tc lc) = o := ⟨_, rfl⟩
  rw [hoac] at Oac Hac
  have Hba := Lib.hid (fun (h1 : eb = 0) (h2 : ea = 0) => (Tp.comp_cmp (heb.trans h1) (hea.trans h2) jb ja).trans (by rw [hpb, hpa]))
  obtain ⟨oba, hoba⟩ : ∃ o, Tp.comp (It.mk kb bb nb fb tb lb) (It.mk ka ba na fa ta la) = o := ⟨_, rfl⟩
  rw [hoba] at Oba Hba
  rw [hea, hpa] at Pa
  rw [hea] at Ca
  rw [heb, hpb] at Pb
  rw [heb] at Cb
  rw [hec, hpc] at Pc
  rw [hec] at Cc
  have Z1 := Lib.hid (Tp.cmpL_zero pa pb)
  have L1 := cmpL_le pa pb
  have L2 := cmpL_le pb pc
  have L3 := cmpL_le pa pc
  have T1 := Tp.cmpL_trans pa pb pc
  have T2 := Tp.cmpL_trans pc pb pa
  rw [cmpL_anti pb pc, cmpL_anti pa pb, cmpL_anti pa pc] at T2
  have Hab2 := Lib.hid (fun (h1 : ea = 0) (h2 : eb = 0) => ((Hba.out) h2 h1).trans (cmpL_anti pa pb))
  clear ia ra za ja hea hpa ib rb zb jb heb hpb ic rc zc jc hec hpc hoab hobc hoac hoba hm hlt KK AW hsh Hba
  have hs : Chg (fun _ => False) W (((W.alloc (.cells #[.int .u8 ka, .bool ba, .int .i64 na, .float .f64 fa, S ta, .slice Aa ma ca] 37)).alloc (.cells #[.int .u8 kb, .bool bb, .int .i64 nb, .float .f64 fb, S tb, .slice Ab mb cb] 37)).alloc (.cells #[.int .u8 kc, .bool bc, .int .i64 nc, .float .f64 fc, S tc, .slice Ac mc cc] 37)) := (((Chg.refl _ W).alloc _).alloc _).alloc _
  have Hs := Lib.hid hs
  clear hs
  have L := Lib.hid (And.intro L1 (And.intro L2 (And.intro L3 (And.intro T1 T2))))
  clear L1 L2 L3 T1 T2
  go_enter Tryd.func9, Tryd.ntmps9
  go_wp2_with fail
  refine (HA.out _ Hs.out).mono ?_
  rintro e w1 ⟨rfl, q⟩
  have h1 := (Hs.out).trans q
  have ha := (Na.out).chg q (fun h => h)
  have hb := (Nb.out).chg q (fun h => h)
  have hc := (Nc.out).chg q (fun h => h)
  have da0 : w1.cell? ⟨W.heap.size, 0, none⟩ = some (.int .u8 ka) := by rw [ha.cell]; rfl
  have da1 : w1.cell? ⟨W.heap.size, 1, none⟩ = some (.bool ba) := by rw [ha.cell]; rfl
  have da2 : w1.cell? ⟨W.heap.size, 2, none⟩ = some (.int .i64 na) := by rw [ha.cell]; rfl
  have da3 : w1.cell? ⟨W.heap.size, 3, none⟩ = some (.float .f64 fa) := by rw [ha.cell]; rfl
  have da4 : w1.cell? ⟨W.heap.size, 4, none⟩ = some (S ta) := by rw [ha.cell]; rfl
  have da5 : w1.cell? ⟨W.heap.size, 5, none⟩ = some (.slice Aa ma ca) := by rw [ha.cell]; rfl
  have db0 : w1.cell? ⟨W.heap.size + 1, 0, none⟩ = some (.int .u8 kb) := by rw [hb.cell]; rfl
  have db1 : w1.cell? ⟨W.heap.size + 1, 1, none⟩ = some (.bool bb) := by rw [hb.cell]; rfl
  have db2 : w1.cell? ⟨W.heap.size + 1, 2, none⟩ = some (.int .i64 nb) := by rw [hb.cell]; rfl
  have db3 : w1.cell? ⟨W.heap.size + 1, 3, none⟩ = some (.float .f64 fb) := by rw [hb.cell]; rfl
  have db4 : w1.cell? ⟨W.heap.size + 1, 4, none⟩ = some (S tb) := by rw [hb.cell]; rfl
  have db5 : w1.cell? ⟨W.heap.size + 1, 5, none⟩ = some (.slice Ab mb cb) := by rw [hb.cell]; rfl
  have dc0 : w1.cell? ⟨W.heap.size + 1 + 1, 0, none⟩ = some (.int .u8 kc) := by rw [hc.cell]; rfl
  have dc1 : w1.cell? ⟨W.heap.size + 1 + 1, 1, none⟩ = some (.bool bc) := by rw [hc.cell]; rfl
  have dc2 : w1.cell? ⟨W.heap.size + 1 + 1, 2, none⟩ = some (.int .i64 nc) := by rw [hc.cell]; rfl
  have dc3 : w1.cell? ⟨W.heap.size + 1 + 1, 3, none⟩ = some (.float .f64 fc) := by rw [hc.cell]; rfl
  have dc4 : w1.cell? ⟨W.heap.size + 1 + 1, 4, none⟩ = some (S tc) := by rw [hc.cell]; rfl
  have dc5 : w1.cell? ⟨W.heap.size + 1 + 1, 5, none⟩ = some (.slice Ac mc cc) := by rw [hc.cell]; rfl
  have Ha := Lib.hid ha
  have Hb := Lib.hid hb
  have Hc := Lib.hid hc
  clear q ha hb hc
  go_wp2_with fail
  refine (Pa.out _ h1).mono ?_
  rintro e w2 ⟨rfl, q⟩
  have h2 := (h1.alloc _).trans q
  have ha := ((Ha.out).alloc _).chg q (fun h => h)
  have hb := ((Hb.out).alloc _).chg q (fun h => h)
  have hc := ((Hc.out).alloc _).chg q (fun h => h)
  clear da0 da1 da2 da3 da4 da5 db0 db1 db2 db3 db4 db5 dc0 dc1 dc2 dc3 dc4 dc5
  have da0 : w2.cell? ⟨W.heap.size, 0, none⟩ = some (.int .u8 ka) := by rw [ha.cell]; rfl
  have da1 : w2.cell? ⟨W.heap.size, 1, none⟩ = some (.bool ba) := by rw [ha.cell]; rfl
  have da2 : w2.cell? ⟨W.heap.size, 2, none⟩ = some (.int .i64 na) := by rw [ha.cell]; rfl
  have da3 : w2.cell? ⟨W.heap.size, 3, none⟩ = some (.float .f64 fa) := by rw [ha.cell]; rfl
  have da4 : w2.cell? ⟨W.heap.size, 4, none⟩ = some (S ta) := by rw [ha.cell]; rfl
  have da5 : w2.cell? ⟨W.heap.size, 5, none⟩ = some (.slice Aa ma ca) := by rw [ha.cell]; rfl
  have db0 : w2.cell? ⟨W.heap.size + 1, 0, none⟩ = some (.int .u8 kb) := by rw [hb.cell]; rfl
  have db1 : w2.cell? ⟨W.heap.size + 1, 1, none⟩ = some (.bool bb) := by rw [hb.cell]; rfl
  have db2 : w2.cell? ⟨W.heap.size + 1, 2, none⟩ = some (.int .i64 nb) := by rw [hb.cell]; rfl
  have db3 : w2.cell? ⟨W.heap.size + 1, 3, none⟩ = some (.float .f64 fb) := by rw [hb.cell]; rfl
  have db4 : w2.cell? ⟨W.heap.size + 1, 4, none⟩ = some (S tb) := by rw [hb.cell]; rfl
  have db5 : w2.cell? ⟨W.heap.size + 1, 5, none⟩ = some (.slice Ab mb cb) := by rw [hb.cell]; rfl
  have dc0 : w2.cell? ⟨W.heap.size + 1 + 1, 0, none⟩ = some (.int .u8 kc) := by rw [hc.cell]; rfl
  have dc1 : w2.cell? ⟨W.heap.size + 1 + 1, 1, none⟩ = some (.bool bc) := by rw [hc.cell]; rfl
  have dc2 : w2.cell? ⟨W.heap.size + 1 + 1, 2, none⟩ = some (.int .i64 nc) := by rw [hc.cell]; rfl
  have dc3 : w2.cell? ⟨W.heap.size + 1 + 1, 3, none⟩ = some (.float .f64 fc) := by rw [hc.cell]; rfl
  have dc4 : w2.cell? ⟨W.heap.size + 1 + 1, 4, none⟩ = some (S tc) := by rw [hc.cell]; rfl
  have dc5 : w2.cell? ⟨W.heap.size + 1 + 1, 5, none⟩ = some (.slice Ac mc cc) := by rw [hc.cell]; rfl
  have Ha := Lib.hid ha
  have Hb := Lib.hid hb
  have Hc := Lib.hid hc
  clear q ha hb hc
  go_wp2_with fail
  refine (Pb.out _ h2).mono ?_
  rintro e w3 ⟨rfl, q⟩
  have h3 := (h2.alloc _).trans q
  have ha := ((Ha.out).alloc _).chg q (fun h => h)
  have hb := ((Hb.out).alloc _).chg q (fun h => h)
  have hc := ((Hc.out).alloc _).chg q (fun h => h)
  clear da0 da1 da2 da3 da4 da5 db0 db1 db2 db3 db4 db5 dc0 dc1 dc2 dc3 dc4 dc5
  have da0 : w3.cell? ⟨W.heap.size, 0, none⟩ = some (.int .u8 ka) := by rw [ha.cell]; rfl
  have da1 : w3.cell? ⟨W.heap.size, 1, none⟩ = some (.bool ba) := by rw [ha.cell]; rfl
  have da2 : w3.cell? ⟨W.heap.size, 2, none⟩ = some (.int .i64 na) := by rw [ha.cell]; rfl
  have da3 : w3.cell? ⟨W.heap.size, 3, none⟩ = some (.float .f64 fa) := by rw [ha.cell]; rfl
  have da4 : w3.cell? ⟨W.heap.size, 4, none⟩ = some (S ta) := by rw [ha.cell]; rfl
  have da5 : w3.cell? ⟨W.heap.size, 5, none⟩ = some (.slice Aa ma ca) := by rw [ha.cell]; rfl
  have db0 : w3.cell? ⟨W.heap.size + 1, 0, none⟩ = some (.int .u8 kb) := by rw [hb.cell]; rfl
  have db1 : w3.cell? ⟨W.heap.size + 1, 1, none⟩ = some (.bool bb) := by rw [hb.cell]; rfl
  have db2 : w3.cell? ⟨W.heap.size + 1, 2, none⟩ = some (.int .i64 nb) := by rw [hb.cell]; rfl
  have db3 : w3.cell? ⟨W.heap.size + 1, 3, none⟩ = some (.float .f64 fb) := by rw [hb.cell]; rfl
  have db4 : w3.cell? ⟨W.heap.size + 1, 4, none⟩ = some (S tb) := by rw [hb.cell]; rfl
  have db5 : w3.cell? ⟨W.heap.size + 1, 5, none⟩ = some (.slice Ab mb cb) := by rw [hb.cell]; rfl
  have dc0 : w3.cell? ⟨W.heap.size + 1 + 1, 0, none⟩ = some (.int .u8 kc) := by rw [hc.cell]; rfl
  have dc1 : w3.cell? ⟨W.heap.size + 1 + 1, 1, none⟩ = some (.bool bc) := by rw [hc.cell]; rfl
  have dc2 : w3.cell? ⟨W.heap.size + 1 + 1, 2, none⟩ = some (.int .i64 nc) := by rw [hc.cell]; rfl
  have dc3 : w3.cell? ⟨W.heap.size + 1 + 1, 3, none⟩ = some (.float .f64 fc) := by rw [hc.cell]; rfl
  have dc4 : w3.cell? ⟨W.heap.size + 1 + 1, 4, none⟩ = some (S tc) := by rw [hc.cell]; rfl
  have dc5 : w3.cell? ⟨W.heap.size + 1 + 1, 5, none⟩ = some (.slice Ac mc cc) := by rw [hc.cell]; rfl
  have Ha := Lib.hid ha
  have Hb := Lib.hid hb
  have Hc := Lib.hid hc
  clear q ha hb hc
  go_wp2_with fail
  refine (Pc.out _ h3).mono ?_
  rintro e w4 ⟨rfl, q⟩
  have h4 := (h3.alloc _).trans q
  have ha := ((Ha.out).alloc _).chg q (fun h => h)
  have hb := ((Hb.out).alloc _).chg q (fun h => h)
  have hc := ((Hc.out).alloc _).chg q (fun h => h)
  clear da0 da1 da2 da3 da4 da5 db0 db1 db2 db3 db4 db5 dc0 dc1 dc2 dc3 dc4 dc5
  have da0 : w4.cell? ⟨W.heap.size, 0, none⟩ = some (.int .u8 ka) := by rw [ha.cell]; rfl
  have da1 : w4.cell? ⟨W.heap.size, 1, none⟩ = some (.bool ba) := by rw [ha.cell]; rfl
  have da2 : w4.cell? ⟨W.heap.size, 2, none⟩ = some (.int .i64 na) := by rw [ha.cell]; rfl
  have da3 : w4.cell? ⟨W.heap.size, 3, none⟩ = some (.float .f64 fa) := by rw [ha.cell]; rfl
  have da4 : w4.cell? ⟨W.heap.size, 4, none⟩ = some (S ta) := by rw [ha.cell]; rfl
  have da5 : w4.cell? ⟨W.heap.size, 5, none⟩ = some (.slice Aa ma ca) := by rw [ha.cell]; rfl
  have db0 : w4.cell? ⟨W.heap.size + 1, 0, none⟩ = some (.int .u8 kb) := by rw [hb.cell]; rfl
  have db1 : w4.cell? ⟨W.heap.size + 1, 1, none⟩ = some (.bool bb) := by rw [hb.cell]; rfl
  have db2 : w4.cell? ⟨W.heap.size + 1, 2, none⟩ = some (.int .i64 nb) := by rw [hb.cell]; rfl
  have db3 : w4.cell? ⟨W.heap.size + 1, 3, none⟩ = some (.float .f64 fb) := by rw [hb.cell]; rfl
  have db4 : w4.cell? ⟨W.heap.size + 1, 4, none⟩ = some (S tb) := by rw [hb.cell]; rfl
  have db5 : w4.cell? ⟨W.heap.size + 1, 5, none⟩ = some (.slice Ab mb cb) := by rw [hb.cell]; rfl
  have dc0 : w4.cell? ⟨W.heap.size + 1 + 1, 0, none⟩ = some (.int .u8 kc) := by rw [hc.cell]; rfl
  have dc1 : w4.cell? ⟨W.heap.size + 1 + 1, 1, none⟩ = some (.bool bc) := by rw [hc.cell]; rfl
  have dc2 : w4.cell? ⟨W.heap.size + 1 + 1, 2, none⟩ = some (.int .i64 nc) := by rw [hc.cell]; rfl
  have dc3 : w4.cell? ⟨W.heap.size + 1 + 1, 3, none⟩ = some (.float .f64 fc) := by rw [hc.cell]; rfl
  have dc4 : w4.cell? ⟨W.heap.size + 1 + 1, 4, none⟩ = some (S tc) := by rw [hc.cell]; rfl
  have dc5 : w4.cell? ⟨W.heap.size + 1 + 1, 5, none⟩ = some (.slice Ac mc cc) := by rw [hc.cell]; rfl
  have Ha := Lib.hid ha
  have Hb := Lib.hid hb
  have Hc := Lib.hid hc
  clear q ha hb hc
  by_cases xa : ea = 0
  · subst xa
    by_cases xb : eb = 0
    · subst xb
      by_cases xc : ec = 0
      · subst xc
        obtain rfl := (Hab.out) rfl rfl
        obtain rfl := (Hbc.out) rfl rfl
        obtain rfl := (Hac.out) rfl rfl
        obtain rfl := (Hab2.out) rfl rfl
        obtain ⟨L1, L2, L3, T1, T2⟩ := L.out
        have Z2 := Z1.out
        generalize Tp.cmpL pa pb = x at *
        generalize Tp.cmpL pb pc = y at *
        generalize Tp.cmpL pa pc = z at *
        have hneg : IntKind.i64.wrap (- -x) = x := by rw [Int.neg_neg]; exact IntWalk.i64_in _ (by omega)
        have HL := Lib.hid (And.intro L1 (And.intro L2 (And.intro L3 (And.intro T1 T2))))
        have HZ := Lib.hid Z2
        clear L1 L2 L3 T1 T2 Z2
        have hbase := h4
        have xa := Ha.out
        have xb := Hb.out
        have xc := Hc.out
        have xa' := xa.drew
        have xb' := xb.drew
        have xc' := xc.drew
        clear da0 da1 da2 da3 da4 da5 db0 db1 db2 db3 db4 db5 dc0 dc1 dc2 dc3 dc4 dc5
        have G0 := Lib.hid h4.drew
        go_upto_region 8 with fail
        go_region_held3 (fun w' => w'.cell? ⟨W.heap.size, 0, none⟩ = some (.int .u8 ka) ∧ w'.cell? ⟨W.heap.size, 1, none⟩ = some (.bool ba) ∧ w'.cell? ⟨W.heap.size, 2, none⟩ = some (.int .i64 na) ∧ w'.cell? ⟨W.heap.size, 3, none⟩ = some (.float .f64 fa) ∧ w'.cell? ⟨W.heap.size, 4, none⟩ = some (S ta) ∧ w'.cell? ⟨W.heap.size, 5, none⟩ = some (.slice Aa ma ca) ∧ w'.cell? ⟨W.heap.size + 1, 0, none⟩ = some (.int .u8 kb) ∧ w'.cell? ⟨W.heap.size + 1, 1, none⟩ = some (.bool bb) ∧ w'.cell? ⟨W.heap.size + 1, 2, none⟩ = some (.int .i64 nb) ∧ w'.cell? ⟨W.heap.size + 1, 3, none⟩ = some (.float .f64 fb) ∧ w'.cell? ⟨W.heap.size + 1, 4, none⟩ = some (S tb) ∧ w'.cell? ⟨W.heap.size + 1, 5, none⟩ = some (.slice Ab mb cb) ∧ w'.cell? ⟨W.heap.size + 1 + 1, 0, none⟩ = some (.int .u8 kc) ∧ w'.cell? ⟨W.heap.size + 1 + 1, 1, none⟩ = some (.bool bc) ∧ w'.cell? ⟨W.heap.size + 1 + 1, 2, none⟩ = some (.int .i64 nc) ∧ w'.cell? ⟨W.heap.size + 1 + 1, 3, none⟩ = some (.float .f64 fc) ∧ w'.cell? ⟨W.heap.size + 1 + 1, 4, none⟩ = some (S tc) ∧ w'.cell? ⟨W.heap.size + 1 + 1, 5, none⟩ = some (.slice Ac mc cc))
          (first | exact s18 _ _ _ _ _ _ _ _  _ _ _ _ _ _ _ _  _ _ _ _ _ _ _ _ (by assumption) (by assumption) (by assumption))
          (first
            | (go_at_call 22; (with_reducible refine (Oab.out _ G0.out).mono ?_); rintro e wA ⟨rfl, qA⟩; have GA := Lib.hid ((G0.out).trans qA); have aA := xa'.chg qA (fun h => h); have bA := xb'.chg qA (fun h => h); have cA := xc'.chg qA (fun h => h))
            | (go_at_call 22; (with_reducible refine (Obc.out _ GA.out).mono ?_); rintro e wB ⟨rfl, qB⟩; have GB := Lib.hid ((GA.out).trans qB); have aB := aA.chg qB (fun h => h); have bB := bA.chg qB (fun h => h); have cB := cA.chg qB (fun h => h))
            | (go_at_call 22; (with_reducible refine (Oac.out _ GB.out).mono ?_); rintro e wC ⟨rfl, qC⟩; have GC := Lib.hid ((GB.out).trans qC); have aC := aB.chg qC (fun h => h); have bC := bB.chg qC (fun h => h); have cC := cB.chg qC (fun h => h)))
        clear xa xb xc xa' xb' xc' aA bA cA aB bB cB cC qA qB qC hbase
        have da0 : wC.cell? ⟨W.heap.size, 0, none⟩ = some (.int .u8 ka) := by rw [aC.cell]; rfl
        have da1 : wC.cell? ⟨W.heap.size, 1, none⟩ = some (.bool ba) := by rw [aC.cell]; rfl
        have da2 : wC.cell? ⟨W.heap.size, 2, none⟩ = some (.int .i64 na) := by rw [aC.cell]; rfl
        have da3 : wC.cell? ⟨W.heap.size, 3, none⟩ = some (.float .f64 fa) := by rw [aC.cell]; rfl
        have da4 : wC.cell? ⟨W.heap.size, 4, none⟩ = some (S ta) := by rw [aC.cell]; rfl
        have da5 : wC.cell? ⟨W.heap.size, 5, none⟩ = some (.slice Aa ma ca) := by rw [aC.cell]; rfl
        have db0 : wC.cell? ⟨W.heap.size + 1, 0, none⟩ = some (.int .u8 kb) := by rw [bC.cell]; rfl
        have db1 : wC.cell? ⟨W.heap.size + 1, 1, none⟩ = some (.bool bb) := by rw [bC.cell]; rfl
        have db2 : wC.cell? ⟨W.heap.size + 1, 2, none⟩ = some (.int .i64 nb) := by rw [bC.cell]; rfl
        have db3 : wC.cell? ⟨W.heap.size + 1, 3, none⟩ = some (.float .f64 fb) := by rw [bC.cell]; rfl
        have db4 : wC.cell? ⟨W.heap.size + 1, 4, none⟩ = some (S tb) := by rw [bC.cell]; rfl
        have db5 : wC.cell? ⟨W.heap.size + 1, 5, none⟩ = some (.slice Ab mb cb) := by rw [bC.cell]; rfl
        clear aC bC
        go_wp2_with fail
        refine (Oba.out _ GC.out).mono ?_
        rintro e wD ⟨rfl, qD⟩
        have GD := Lib.hid ((GC.out).trans qD)
        clear qD da0 da1 da2 da3 da4 da5 db0 db1 db2 db3 db4 db5
        have hpq : (pa == pb) = decide (x = 0) := by rw [Bool.eq_iff_iff]; simp [HZ.out]
        obtain ⟨L1, L2, L3, T1, T2⟩ := HL.out
        obtain ⟨x', hx'⟩ : ∃ x', -x = x' := ⟨_, rfl⟩
        rw [hx']
        have hneg2 : IntKind.i64.wrap (-x') = x := by rw [← hx']; exact hneg
        clear hx' hneg
        obtain ⟨mn, hmn⟩ : ∃ mn, min x y = mn := ⟨_, rfl⟩
        obtain ⟨mx, hmx⟩ : ∃ mx, max x y = mx := ⟨_, rfl⟩
        have f1 : decide (x < -1) = false := by rw [decide_eq_false_iff_not]; omega
        have f2 : decide (1 < x) = false := by rw [decide_eq_false_iff_not]; omega
        have sx : x < 0 ∨ x = 0 ∨ 0 < x := by omega
        have sy : y < 0 ∨ y = 0 ∨ 0 < y := by omega
        clear HZ
        rcases sx with sx | sx | sx <;> rcases sy with sy | sy | sy
        all_goals
          have g1 : decide (0 < x) = _ := (by first | exact decide_eq_true sx | exact decide_eq_false (by omega))
          have g2 : decide (x < 0) = _ := (by first | exact decide_eq_true sx | exact decide_eq_false (by omega))
          have g3 : decide (0 < y) = _ := (by first | exact decide_eq_true sy | exact decide_eq_false (by omega))
          have g4 : decide (y < 0) = _ := (by first | exact decide_eq_true sy | exact decide_eq_false (by omega))
          have g5 : (x == 0) = _ := (by first | exact (beq_iff_eq.2 sx) | exact (beq_eq_false_iff_ne.2 (by omega)))
          have g6 : (pa == pb) = _ := (by first | exact hpq.trans (decide_eq_true sx) | exact hpq.trans (decide_eq_false (by omega)))
          try (have g7 : (z == mn) = true := (by rw [beq_iff_eq, ← hmn]; exact T1 (by omega) (by omega)))
          try (have g8 : (z == mx) = true := (by rw [beq_iff_eq, ← hmx]; have := T2 (by omega) (by omega); omega))
          clear L1 L2 L3 T1 T2 hpq sx sy
          go_upto_region 11 with fail
          go_wp2_with fail
          go_ret
          exact ⟨rfl, GD.out⟩
      · have y1 : (ec != 0) = true := by simpa using xc
        have y2 : (ec == 0) = false := by simpa using xc
        clear xc
        go_wp2_with fail
        refine (Ca.out _ h4).mono ?_
        rintro e w5 ⟨rfl, q⟩
        have h5 := (h4.alloc _).trans q
        have ha := ((Ha.out).alloc _).chg q (fun h => h)
        have hb := ((Hb.out).alloc _).chg q (fun h => h)
        have hc := ((Hc.out).alloc _).chg q (fun h => h)
        clear da0 da1 da2 da3 da4 da5 db0 db1 db2 db3 db4 db5 dc0 dc1 dc2 dc3 dc4 dc5
        have da0 : w5.cell? ⟨W.heap.size, 0, none⟩ = some (.int .u8 ka) := by rw [ha.cell]; rfl
        have da1 : w5.cell? ⟨W.heap.size, 1, none⟩ = some (.bool ba) := by rw [ha.cell]; rfl
        have da2 : w5.cell? ⟨W.heap.size, 2, none⟩ = some (.int .i64 na) := by rw [ha.cell]; rfl
        have da3 : w5.cell? ⟨W.heap.size, 3, none⟩ = some (.float .f64 fa) := by rw [ha.cell]; rfl
        have da4 : w5.cell? ⟨W.heap.size, 4, none⟩ = some (S ta) := by rw [ha.cell]; rfl
        have da5 : w5.cell? ⟨W.heap.size, 5, none⟩ = some (.slice Aa ma ca) := by rw [ha.cell]; rfl
        have db0 : w5.cell? ⟨W.heap.size + 1, 0, none⟩ = some (.int .u8 kb) := by rw [hb.cell]; rfl
        have db1 : w5.cell? ⟨W.heap.size + 1, 1, none⟩ = some (.bool bb) := by rw [hb.cell]; rfl
        have db2 : w5.cell? ⟨W.heap.size + 1, 2, none⟩ = some (.int .i64 nb) := by rw [hb.cell]; rfl
        have db3 : w5.cell? ⟨W.heap.size + 1, 3, none⟩ = some (.float .f64 fb) := by rw [hb.cell]; rfl
        have db4 : w5.cell? ⟨W.heap.size + 1, 4, none⟩ = some (S tb) := by rw [hb.cell]; rfl
        have db5 : w5.cell? ⟨W.heap.size + 1, 5, none⟩ = some (.slice Ab mb cb) := by rw [hb.cell]; rfl
        have dc0 : w5.cell? ⟨W.heap.size + 1 + 1, 0, none⟩ = some (.int .u8 kc) := by rw [hc.cell]; rfl
        have dc1 : w5.cell? ⟨W.heap.size + 1 + 1, 1, none⟩ = some (.bool bc) := by rw [hc.cell]; rfl
        have dc2 : w5.cell? ⟨W.heap.size + 1 + 1, 2, none⟩ = some (.int .i64 nc) := by rw [hc.cell]; rfl
        have dc3 : w5.cell? ⟨W.heap.size + 1 + 1, 3, none⟩ = some (.float .f64 fc) := by rw [hc.cell]; rfl
        have dc4 : w5.cell? ⟨W.heap.size + 1 + 1, 4, none⟩ = some (S tc) := by rw [hc.cell]; rfl
        have dc5 : w5.cell? ⟨W.heap.size + 1 + 1, 5, none⟩ = some (.slice Ac mc cc) := by rw [hc.cell]; rfl
        have Ha := Lib.hid ha
        have Hb := Lib.hid hb
        have Hc := Lib.hid hc
        clear q ha hb hc
        go_wp2_with fail
        refine (Cb.out _ h5).mono ?_
        rintro e w6 ⟨rfl, q⟩
        have h6 := (h5.alloc _).trans q
        have ha := ((Ha.out).alloc _).chg q (fun h => h)
        have hb := ((Hb.out).alloc _).chg q (fun h => h)
        have hc := ((Hc.out).alloc _).chg q (fun h => h)
        clear da0 da1 da2 da3 da4 da5 db0 db1 db2 db3 db4 db5 dc0 dc1 dc2 dc3 dc4 dc5
        have da0 : w6.cell? ⟨W.heap.size, 0, none⟩ = some (.int .u8 ka) := by rw [ha.cell]; rfl
        have da1 : w6.cell? ⟨W.heap.size, 1, none⟩ = some (.bool ba) := by rw [ha.cell]; rfl
        have da2 : w6.cell? ⟨W.heap.size, 2, none⟩ = some (.int .i64 na) := by rw [ha.cell]; rfl
        have da3 : w6.cell? ⟨W.heap.size, 3, none⟩ = some (.float .f64 fa) := by rw [ha.cell]; rfl
        have da4 : w6.cell? ⟨W.heap.size, 4, none⟩ = some (S ta) := by rw [ha.cell]; rfl
        have da5 : w6.cell? ⟨W.heap.size, 5, none⟩ = some (.slice Aa ma ca) := by rw [ha.cell]; rfl
        have db0 : w6.cell? ⟨W.heap.size + 1, 0, none⟩ = some (.int .u8 kb) := by rw [hb.cell]; rfl
        have db1 : w6.cell? ⟨W.heap.size + 1, 1, none⟩ = some (.bool bb) := by rw [hb.cell]; rfl
        have db2 : w6.cell? ⟨W.heap.size + 1, 2, none⟩ = some (.int .i64 nb) := by rw [hb.cell]; rfl
        have db3 : w6.cell? ⟨W.heap.size + 1, 3, none⟩ = some (.float .f64 fb) := by rw [hb.cell]; rfl
        have db4 : w6.cell? ⟨W.heap.size + 1, 4, none⟩ = some (S tb) := by rw [hb.cell]; rfl
        have db5 : w6.cell? ⟨W.heap.size + 1, 5, none⟩ = some (.slice Ab mb cb) := by rw [hb.cell]; rfl
        have dc0 : w6.cell? ⟨W.heap.size + 1 + 1, 0, none⟩ = some (.int .u8 kc) := by rw [hc.cell]; rfl
        have dc1 : w6.cell? ⟨W.heap.size + 1 + 1, 1, none⟩ = some (.bool bc) := by rw [hc.cell]; rfl
        have dc2 : w6.cell? ⟨W.heap.size + 1 + 1, 2, none⟩ = some (.int .i64 nc) := by rw [hc.cell]; rfl
        have dc3 : w6.cell? ⟨W.heap.size + 1 + 1, 3, none⟩ = some (.float .f64 fc) := by rw [hc.cell]; rfl
        have dc4 : w6.cell? ⟨W.heap.size + 1 + 1, 4, none⟩ = some (S tc) := by rw [hc.cell]; rfl
        have dc5 : w6.cell? ⟨W.heap.size + 1 + 1, 5, none⟩ = some (.slice Ac mc cc) := by rw [hc.cell]; rfl
        have Ha := Lib.hid ha
        have Hb := Lib.hid hb
        have Hc := Lib.hid hc
        clear q ha hb hc
        go_wp2_with fail
        refine (Cc.out _ h6).mono ?_
        rintro e w7 ⟨rfl, q⟩
        have h7 := (h6.alloc _).trans q
        go_wp2_with fail
        go_ret
        exact ⟨rfl, h7⟩
    · have y1 : (eb != 0) = true := by simpa using xb
      have y2 : (eb == 0) = false := by simpa using xb
      clear xb
      go_wp2_with fail
      refine (Ca.out _ h4).mono ?_
      rintro e w5 ⟨rfl, q⟩
      have h5 := (h4.alloc _).trans q
      have ha := ((Ha.out).alloc _).chg q (fun h => h)
      have hb := ((Hb.out).alloc _).chg q (fun h => h)
      have hc := ((Hc.out).alloc _).chg q (fun h => h)
      clear da0 da1 da2 da3 da4 da5 db0 db1 db2 db3 db4 db5 dc0 dc1 dc2 dc3 dc4 dc5
      have da0 : w5.cell? ⟨W.heap.size, 0, none⟩ = some (.int .u8 ka) := by rw [ha.cell]; rfl
      have da1 : w5.cell? ⟨W.heap.size, 1, none⟩ = some (.bool ba) := by rw [ha.cell]; rfl
      have da2 : w5.cell? ⟨W.heap.size, 2, none⟩ = some (.int .i64 na) := by rw [ha.cell]; rfl
      have da3 : w5.cell? ⟨W.heap.size, 3, none⟩ = some (.float .f64 fa) := by rw [ha.cell]; rfl
      have da4 : w5.cell? ⟨W.heap.size, 4, none⟩ = some (S ta) := by rw [ha.cell]; rfl
      have da5 : w5.cell? ⟨W.heap.size, 5, none⟩ = some (.slice Aa ma ca) := by rw [ha.cell]; rfl
      have db0 : w5.cell? ⟨W.heap.size + 1, 0, none⟩ = some (.int .u8 kb) := by rw [hb.cell]; rfl
      have db1 : w5.cell? ⟨W.heap.size + 1, 1, none⟩ = some (.bool bb) := by rw [hb.cell]; rfl
      have db2 : w5.cell? ⟨W.heap.size + 1, 2, none⟩ = some (.int .i64 nb) := by rw [hb.cell]; rfl
      have db3 : w5.cell? ⟨W.heap.size + 1, 3, none⟩ = some (.float .f64 fb) := by rw [hb.cell]; rfl
      have db4 : w5.cell? ⟨W.heap.size + 1, 4, none⟩ = some (S tb) := by rw [hb.cell]; rfl
      have db5 : w5.cell? ⟨W.heap.size + 1, 5, none⟩ = some (.slice Ab mb cb) := by rw [hb.cell]; rfl
      have dc0 : w5.cell? ⟨W.heap.size + 1 + 1, 0, none⟩ = some (.int .u8 kc) := by rw [hc.cell]; rfl
      have dc1 : w5.cell? ⟨W.heap.size + 1 + 1, 1, none⟩ = some (.bool bc) := by rw [hc.cell]; rfl
      have dc2 : w5.cell? ⟨W.heap.size + 1 + 1, 2, none⟩ = some (.int .i64 nc) := by rw [hc.cell]; rfl
      have dc3 : w5.cell? ⟨W.heap.size + 1 + 1, 3, none⟩ = some (.float .f64 fc) := by rw [hc.cell]; rfl
      have dc4 : w5.cell? ⟨W.heap.size + 1 + 1, 4, none⟩ = some (S tc) := by rw [hc.cell]; rfl
      have dc5 : w5.cell? ⟨W.heap.size + 1 + 1, 5, none⟩ = some (.slice Ac mc cc) := by rw [hc.cell]; rfl
      have Ha := Lib.hid ha
      have Hb := Lib.hid hb
      have Hc := Lib.hid hc
      clear q ha hb hc
      go_wp2_with fail
      refine (Cb.out _ h5).mono ?_
      rintro e w6 ⟨rfl, q⟩
      have h6 := (h5.alloc _).trans q
      have ha := ((Ha.out).alloc _).chg q (fun h => h)
      have hb := ((Hb.out).alloc _).chg q (fun h => h)
      have hc := ((Hc.out).alloc _).chg q (fun h => h)
      clear da0 da1 da2 da3 da4 da5 db0 db1 db2 db3 db4 db5 dc0 dc1 dc2 dc3 dc4 dc5
      have da0 : w6.cell? ⟨W.heap.size, 0, none⟩ = some (.int .u8 ka) := by rw [ha.cell]; rfl
      have da1 : w6.cell? ⟨W.heap.size, 1, none⟩ = some (.bool ba) := by rw [ha.cell]; rfl
      have da2 : w6.cell? ⟨W.heap.size, 2, none⟩ = some (.int .i64 na) := by rw [ha.cell]; rfl
      have da3 : w6.cell? ⟨W.heap.size, 3, none⟩ = some (.float .f64 fa) := by rw [ha.cell]; rfl
      have da4 : w6.cell? ⟨W.heap.size, 4, none⟩ = some (S ta) := by rw [ha.cell]; rfl
      have da5 : w6.cell? ⟨W.heap.size, 5, none⟩ = some (.slice Aa ma ca) := by rw [ha.cell]; rfl
      have db0 : w6.cell? ⟨W.heap.size + 1, 0, none⟩ = some (.int .u8 kb) := by rw [hb.cell]; rfl
      have db1 : w6.cell? ⟨W.heap.size + 1, 1, none⟩ = some (.bool bb) := by rw [hb.cell]; rfl
      have db2 : w6.cell? ⟨W.heap.size + 1, 2, none⟩ = some (.int .i64 nb) := by rw [hb.cell]; rfl
      have db3 : w6.cell? ⟨W.heap.size + 1, 3, none⟩ = some (.float .f64 fb) := by rw [hb.cell]; rfl
      have db4 : w6.cell? ⟨W.heap.size + 1, 4, none⟩ = some (S tb) := by rw [hb.cell]; rfl
      have db5 : w6.cell? ⟨W.heap.size + 1, 5, none⟩ = some (.slice Ab mb cb) := by rw [hb.cell]; rfl
      have dc0 : w6.cell? ⟨W.heap.size + 1 + 1, 0, none⟩ = some (.int .u8 kc) := by rw [hc.cell]; rfl
      have dc1 : w6.cell? ⟨W.heap.size + 1 + 1, 1, none⟩ = some (.bool bc) := by rw [hc.cell]; rfl
      have dc2 : w6.cell? ⟨W.heap.size + 1 + 1, 2, none⟩ = some (.int .i64 nc) := by rw [hc.cell]; rfl
      have dc3 : w6.cell? ⟨W.heap.size + 1 + 1, 3, none⟩ = some (.float .f64 fc) := by rw [hc.cell]; rfl
      have dc4 : w6.cell? ⟨W.heap.size + 1 + 1, 4, none⟩ = some (S tc) := by rw [hc.cell]; rfl
      have dc5 : w6.cell? ⟨W.heap.size + 1 + 1, 5, none⟩ = some (.slice Ac mc cc) := by rw [hc.cell]; rfl
      have Ha := Lib.hid ha
      have Hb := Lib.hid hb
      have Hc := Lib.hid hc
      clear q ha hb hc
      go_wp2_with fail
      refine (Cc.out _ h6).mono ?_
      rintro e w7 ⟨rfl, q⟩
      have h7 := (h6.alloc _).trans q
      go_wp2_with fail
      go_ret
      exact ⟨rfl, h7⟩
  · have y1 : (ea != 0) = true := by simpa using xa
    have y2 : (ea == 0) = false := by simpa using xa
    clear xa
    go_wp2_with fail
    refine (Ca.out _ h4).mono ?_
    rintro e w5 ⟨rfl, q⟩
    have h5 := (h4.alloc _).trans q
    have ha := ((Ha.out).alloc _).chg q (fun h => h)
    have hb := ((Hb.out).alloc _).chg q (fun h => h)
    have hc := ((Hc.out).alloc _).chg q (fun h => h)
    clear da0 da1 da2 da3 da4 da5 db0 db1 db2 db3 db4 db5 dc0 dc1 dc2 dc3 dc4 dc5
    have da0 : w5.cell? ⟨W.heap.size, 0, none⟩ = some (.int .u8 ka) := by rw [ha.cell]; rfl
    have da1 : w5.cell? ⟨W.heap.size, 1, none⟩ = some (.bool ba) := by rw [ha.cell]; rfl
    have da2 : w5.cell? ⟨W.heap.size, 2, none⟩ = some (.int .i64 na) := by rw [ha.cell]; rfl
    have da3 : w5.cell? ⟨W.heap.size, 3, none⟩ = some (.float .f64 fa) := by rw [ha.cell]; rfl
    have da4 : w5.cell? ⟨W.heap.size, 4, none⟩ = some (S ta) := by rw [ha.cell]; rfl
    have da5 : w5.cell? ⟨W.heap.size, 5, none⟩ = some (.slice Aa ma ca) := by rw [ha.cell]; rfl
    have db0 : w5.cell? ⟨W.heap.size + 1, 0, none⟩ = some (.int .u8 kb) := by rw [hb.cell]; rfl
    have db1 : w5.cell? ⟨W.heap.size + 1, 1, none⟩ = some (.bool bb) := by rw [hb.cell]; rfl
    have db2 : w5.cell? ⟨W.heap.size + 1, 2, none⟩ = some (.int .i64 nb) := by rw [hb.cell]; rfl
    have db3 : w5.cell? ⟨W.heap.size + 1, 3, none⟩ = some (.float .f64 fb) := by rw [hb.cell]; rfl
    have db4 : w5.cell? ⟨W.heap.size + 1, 4, none⟩ = some (S tb) := by rw [hb.cell]; rfl
    have db5 : w5.cell? ⟨W.heap.size + 1, 5, none⟩ = some (.slice Ab mb cb) := by rw [hb.cell]; rfl
    have dc0 : w5.cell? ⟨W.heap.size + 1 + 1, 0, none⟩ = some (.int .u8 kc) := by rw [hc.cell]; rfl
    have dc1 : w5.cell? ⟨W.heap.size + 1 + 1, 1, none⟩ = some (.bool bc) := by rw [hc.cell]; rfl
    have dc2 : w5.cell? ⟨W.heap.size + 1 + 1, 2, none⟩ = some (.int .i64 nc) := by rw [hc.cell]; rfl
    have dc3 : w5.cell? ⟨W.heap.size + 1 + 1, 3, none⟩ = some (.float .f64 fc) := by rw [hc.cell]; rfl
    have dc4 : w5.cell? ⟨W.heap.size + 1 + 1, 4, none⟩ = some (S tc) := by rw [hc.cell]; rfl
    have dc5 : w5.cell? ⟨W.heap.size + 1 + 1, 5, none⟩ = some (.slice Ac mc cc) := by rw [hc.cell]; rfl
    have Ha := Lib.hid ha
    have Hb := Lib.hid hb
    have Hc := Lib.hid hc
    clear q ha hb hc
    go_wp2_with fail
    refine (Cb.out _ h5).mono ?_
    rintro e w6 ⟨rfl, q⟩
    have h6 := (h5.alloc _).trans q
    have ha := ((Ha.out).alloc _).chg q (fun h => h)
    have hb := ((Hb.out).alloc _).chg q (fun h => h)
    have hc := ((Hc.out).alloc _).chg q (fun h => h)
    clear da0 da1 da2 da3 da4 da5 db0 db1 db2 db3 db4 db5 dc0 dc1 dc2 dc3 dc4 dc5
    have da0 : w6.cell? ⟨W.heap.size, 0, none⟩ = some (.int .u8 ka) := by rw [ha.cell]; rfl
    have da1 : w6.cell? ⟨W.heap.size, 1, none⟩ = some (.bool ba) := by rw [ha.cell]; rfl
    have da2 : w6.cell? ⟨W.heap.size, 2, none⟩ = some (.int .i64 na) := by rw [ha.cell]; rfl
    have da3 : w6.cell? ⟨W.heap.size, 3, none⟩ = some (.float .f64 fa) := by rw [ha.cell]; rfl
    have da4 : w6.cell? ⟨W.heap.size, 4, none⟩ = some (S ta) := by rw [ha.cell]; rfl
    have da5 : w6.cell? ⟨W.heap.size, 5, none⟩ = some (.slice Aa ma ca) := by rw [ha.cell]; rfl
    have db0 : w6.cell? ⟨W.heap.size + 1, 0, none⟩ = some (.int .u8 kb) := by rw [hb.cell]; rfl
    have db1 : w6.cell? ⟨W.heap.size + 1, 1, none⟩ = some (.bool bb) := by rw [hb.cell]; rfl
    have db2 : w6.cell? ⟨W.heap.size + 1, 2, none⟩ = some (.int .i64 nb) := by rw [hb.cell]; rfl
    have db3 : w6.cell? ⟨W.heap.size + 1, 3, none⟩ = some (.float .f64 fb) := by rw [hb.cell]; rfl
    have db4 : w6.cell? ⟨W.heap.size + 1, 4, none⟩ = some (S tb) := by rw [hb.cell]; rfl
    have db5 : w6.cell? ⟨W.heap.size + 1, 5, none⟩ = some (.slice Ab mb cb) := by rw [hb.cell]; rfl
    have dc0 : w6.cell? ⟨W.heap.size + 1 + 1, 0, none⟩ = some (.int .u8 kc) := by rw [hc.cell]; rfl
    have dc1 : w6.cell? ⟨W.heap.size + 1 + 1, 1, none⟩ = some (.bool bc) := by rw [hc.cell]; rfl
    have dc2 : w6.cell? ⟨W.heap.size + 1 + 1, 2, none⟩ = some (.int .i64 nc) := by rw [hc.cell]; rfl
    have dc3 : w6.cell? ⟨W.heap.size + 1 + 1, 3, none⟩ = some (.float .f64 fc) := by rw [hc.cell]; rfl
    have dc4 : w6.cell? ⟨W.heap.size + 1 + 1, 4, none⟩ = some (S tc) := by rw [hc.cell]; rfl
    have dc5 : w6.cell? ⟨W.heap.size + 1 + 1, 5, none⟩ = some (.slice Ac mc cc) := by rw [hc.cell]; rfl
    have Ha := Lib.hid ha
    have Hb := Lib.hid hb
    have Hc := Lib.hid hc
    clear q ha hb hc
    go_wp2_with fail
    refine (Cc.out _ h6).mono ?_
    rintro e w7 ⟨rfl, q⟩
    have h7 := (h6.alloc _).trans q
    go_wp2_with fail
    go_ret
    exact ⟨rfl, h7⟩

theorem tupleTotal_walk' (ka : Nat) (ba : Bool) (na : Int) (fa : Nat) (ta : List UInt8) (ua : Value) (la : List It) (kb : Nat) (bb : Bool) (nb : Int) (fb : Nat) (tb : List UInt8) (ub : Value) (lb : List It) (kc : Nat) (bc : Bool) (nc : Int) (fc : Nat) (tc : List UInt8) (uc : Value) (lc : List It) (W : World) (hsh : W.ShapedOpen Tryd.prog)
    (ia : InIt ka na fa ta) (ra : Row W W.heap.size ua la) (za : Tp.sz [(It.mk ka ba na fa ta la)] ≤ 1000000000000) (ib : InIt kb nb fb tb) (rb : Row W W.heap.size ub lb) (zb : Tp.sz [(It.mk kb bb nb fb tb lb)] ≤ 1000000000000) (ic : InIt kc nc fc tc) (rc : Row W W.heap.size uc lc) (zc : Tp.sz [(It.mk kc bc nc fc tc lc)] ≤ 1000000000000) :
    Calls Tryd.prog 9 #[IV ka ba na fa ta ua, IV kb bb nb fb tb ub, IV kc bc nc fc tc uc] W fun e w' => e = .returned (.bool true) ∧ Chg (fun _ => False) W w' := by
  obtain ⟨Aa, ca, rfl, -, -⟩ := ra.slice
  obtain ⟨Ab, cb, rfl, -, -⟩ := rb.slice
  obtain ⟨Ac, cc, rfl, -, -⟩ := rc.slice
  exact tupleTotal_walk ka ba na fa ta _ _ _ la kb bb nb fb tb _ _ _ lb kc bc nc fc tc _ _ _ lc W hsh ia ra za ib rb zb ic rc zc
end Go.Proofs.YtdicelibjpmglaaDoor
