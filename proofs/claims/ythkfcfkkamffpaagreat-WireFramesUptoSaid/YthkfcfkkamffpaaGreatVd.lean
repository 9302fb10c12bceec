/-
  Layer 27: is a message that was lent as it was (kept)? Printed by gen_vd.py.
-/
import Derived.Test.YthkfcfkkamffpaaGreatZr
import Derived.Test.YthkfcfkkamffpaaGreatZs
import Derived.Deep.MidRow
import Derived.BigRegion
import Derived.BigQuiet
import Derived.Deep.QuietTactic
import Derived.Deep.RegionHeld3
namespace Go.Proofs.YthkfcfkkamffpaaGreat
open Go.RowKit
set_option linter.unusedVariables false
set_option linter.unusedSimpArgs false
open Wm (M)
attribute [local go_sem ↓] ld_msg st_msg
theorem own_at70 {α : Type} {w : World} {base size n c gg : Nat} {e : TypeId} {l : List α} {f : α → List Value} (h : w.ownsRow base e size (.slice (some ⟨gg, 0, none⟩) n c) n (l.flatMap f)) (hf : ∀ x ∈ l, (f x).length = size) {k : Nat} {x : α} (hx : l[k]? = some x) (hn : l.length = n) :
    ∀ j u, (f x)[j]? = some u → w.cell? ⟨gg, k * size + j, none⟩ = some u := by
  subst hn
  have hr : RL w (some ⟨gg, 0, none⟩) size l.length (l.flatMap f) := ⟨by simpa using h.1, fun hn => ⟨gg, 0, rfl, fun j u hu => by
    have h3 := h.cells (g := gg) rfl j u hu
    have hadd : (⟨gg, 0, none⟩ : Addr).add j = ⟨gg, 0 + j, none⟩ := by unfold Addr.add; split <;> simp_all
    rwa [hadd] at h3⟩⟩
  obtain ⟨b, off, e1, hc⟩ := RL.at_ hf hr hx
  injection e1 with e1
  injection e1 with e2 e3
  subst e2 e3
  intro j u hu
  have := hc j u hu
  rwa [Nat.zero_add] at this
theorem neq_mark (c : UInt8) (z : Int) (i : Nat) (hz : (c.toNat : Int) = z) (h : i < 256) (w : World) : (binOp .neq 27 (.agg (bys (markD c i)).toArray) (.agg #[.int .u8 z, .int .u8 i, .int .u8 0, .int .u8 0, .int .u8 0, .int .u8 0, .int .u8 0, .int .u8 0, .int .u8 0, .int .u8 0, .int .u8 0, .int .u8 0, .int .u8 0, .int .u8 0, .int .u8 0, .int .u8 0, .int .u8 0, .int .u8 0, .int .u8 0, .int .u8 0, .int .u8 0, .int .u8 0, .int .u8 0, .int .u8 0, .int .u8 0, .int .u8 0, .int .u8 0, .int .u8 0, .int .u8 0, .int .u8 0, .int .u8 0, .int .u8 0])).run Tryz.prog w = .ok (.bool false) w := by
  subst hz
  rw [← markD_lit c i h, neq_dig _ _ rfl rfl]
  simp
theorem app_at {α : Type} (l k : List α) (i : Nat) : (l ++ k)[l.length + i]? = k[i]? := by rw [List.getElem?_append_right (by omega), Nat.add_sub_cancel_left]
set_option maxHeartbeats 16000000 in
set_option maxRecDepth 100000 in
theorem kept_calls (m : M) (L2 L : Ls) (base : Nat) (w : World) (hm : Nm m) (hlt : LentL w base m L2) (hl : IsL w m L) :
    Calls Tryz.prog 19 #[.agg (mcells m L2), .agg (mcells m L)] w fun e w' => e = .returned (.bool true) ∧ Chg (fun _ => False) w w' := by
  have b0 : IsM ((w.alloc (.cells (mcells m L2) 36)).alloc (.cells (mcells m L) 36)) w.heap.size m L2 := (Blk.new w 36 (mcells m L2)).alloc _
  have b1 : IsM ((w.alloc (.cells (mcells m L2) 36)).alloc (.cells (mcells m L) 36)) (w.heap.size + 1) m L := by
    have := Blk.new (w.alloc (.cells (mcells m L2) 36)) 36 (mcells m L)
    simpa [IsM] using this
  have ch : Chg (fun _ => False) w ((w.alloc (.cells (mcells m L2) 36)).alloc (.cells (mcells m L) 36)) := ((Chg.refl _ w).alloc _).alloc _
  have HL := Lib.hid (hlt.chg ch (fun _ _ h => h))
  have HI := Lib.hid (hl.chg ch (LOff.no _))
  have B0 := Lib.hid b0
  have B1 := Lib.hid b1
  have Ch := Lib.hid ch
  have Hm := Lib.hid hm
  clear b0 b1 ch hm hlt hl
  go_enter Tryz.func19, Tryz.ntmps19
  go_upto_region 1 with fail
  generalize ((w.alloc (.cells (mcells m L2) 36)).alloc (.cells (mcells m L) 36)) = W at *
  have hld0 := ldM Hm.out.hd B0.out
  have hld1 := ldM Hm.out.hd B1.out
  have HS := rsame_calls m m L2 L W Hm.out Hm.out (HL.out.isl Hm.out) HI.out
  rw [decide_eq_true rfl] at HS
  have HS := Lib.hid HS
  go_wp2_with fail
  refine HS.out.mono ?_
  rintro e w1 ⟨rfl, hc⟩
  have C1 := Lib.hid hc
  clear hc hld0 hld1
  obtain ⟨gg0, ct0, e0, hown0⟩ := (HL.out.chg C1.out (fun _ _ h => h)).t
  obtain ⟨g0', hg0, hcap0, hmax0⟩ := own_cap hown0 (by omega)
  obtain ⟨A0, c0, x0, r0⟩ := HI.out.t
  have u0 := ((B0.out.chg C1.out (fun h => h)).mf Hm.out.hd).t.trans (congrArg some e0)
  have v0 := ((B1.out.chg C1.out (fun h => h)).mf Hm.out.hd).t.trans (congrArg some x0)
  have n0 := Hm.out.nt
  unfold maxLen at hmax0
  have hs0 : IntKind.i64.wrap ((m.trail.length : Int) + 70) = ((m.trail.length + 70 : Nat) : Int) := by rw [IntWalk.i64_in _ (by omega)]; rfl
  have Hown0 := Lib.hid hown0
  have X0 := Lib.hid x0
  clear e0 x0 r0 hg0 hown0
  obtain ⟨gg1, ct1, e1, hown1⟩ := (HL.out.chg C1.out (fun _ _ h => h)).s
  obtain ⟨g1', hg1, hcap1, hmax1⟩ := own_cap hown1 (by omega)
  obtain ⟨A1, c1, x1, r1⟩ := HI.out.s
  have u1 := ((B0.out.chg C1.out (fun h => h)).mf Hm.out.hd).s.trans (congrArg some e1)
  have v1 := ((B1.out.chg C1.out (fun h => h)).mf Hm.out.hd).s.trans (congrArg some x1)
  have n1 := Hm.out.ns
  unfold maxLen at hmax1
  have hs1 : IntKind.i64.wrap ((m.since.length : Int) + 70) = ((m.since.length + 70 : Nat) : Int) := by rw [IntWalk.i64_in _ (by omega)]; rfl
  have Hown1 := Lib.hid hown1
  have X1 := Lib.hid x1
  clear e1 x1 r1 hg1 hown1
  obtain ⟨gg2, ct2, e2, hown2⟩ := (HL.out.chg C1.out (fun _ _ h => h)).p
  obtain ⟨g2', hg2, hcap2, hmax2⟩ := own_cap hown2 (by omega)
  obtain ⟨A2, c2, x2, r2⟩ := HI.out.p
  have u2 := ((B0.out.chg C1.out (fun h => h)).mf Hm.out.hd).p.trans (congrArg some e2)
  have v2 := ((B1.out.chg C1.out (fun h => h)).mf Hm.out.hd).p.trans (congrArg some x2)
  have n2 := Hm.out.np
  unfold maxLen at hmax2
  have hs2 : IntKind.i64.wrap ((m.pairs.length : Int) + 70) = ((m.pairs.length + 70 : Nat) : Int) := by rw [IntWalk.i64_in _ (by omega)]; rfl
  have Hown2 := Lib.hid hown2
  have X2 := Lib.hid x2
  clear e2 x2 r2 hg2 hown2
  obtain ⟨gg3, ct3, e3, hown3⟩ := (HL.out.chg C1.out (fun _ _ h => h)).y
  obtain ⟨g3', hg3, hcap3, hmax3⟩ := own_cap hown3 (by omega)
  obtain ⟨A3, c3, x3, r3⟩ := HI.out.y
  have u3 := ((B0.out.chg C1.out (fun h => h)).mf Hm.out.hd).y.trans (congrArg some e3)
  have v3 := ((B1.out.chg C1.out (fun h => h)).mf Hm.out.hd).y.trans (congrArg some x3)
  have n3 := Hm.out.ny
  unfold maxLen at hmax3
  have hs3 : IntKind.i64.wrap ((m.way.length : Int) + 70) = ((m.way.length + 70 : Nat) : Int) := by rw [IntWalk.i64_in _ (by omega)]; rfl
  have Hown3 := Lib.hid hown3
  have X3 := Lib.hid x3
  clear e3 x3 r3 hg3 hown3
  go_upto_region 3 with fail
  go_quiet (fail)
  clear u0 u1 u2 u3 v0 v1 v2 v3 hs0 hs1 hs2 hs3
  go_wp2_with fail
  go_loopw [9] (fun iv wr => ∃ i : Nat, i ≤ 70 ∧ iv = .int .i64 i ∧ Chg (fun _ => False) w1 wr) (fun iv _ => 70 - (intOf iv).toNat)
  case atStart => exact ⟨0, by omega, rfl, (Chg.refl _ w1).drewN _⟩
  case round =>
    obtain ⟨i, hi, rfl, hc⟩ := hrel
    by_cases hp : i < 70
    case pos =>
      obtain ⟨jj0, hjj0⟩ : ∃ jj, jj = m.trail.length + i := ⟨_, rfl⟩
      have hat0 : (m.trail ++ marksD 1 70)[jj0]? = some (markD 1 i) := by rw [hjj0, app_at]; simp [marksD, hp]
      have hcl0 := own_at70 (f := fun x => bys x) (own_chg Hown0.out hc (fun _ _ h => h)) (fun x hx => by rw [bys_length]; rcases List.mem_append.1 hx with h | h; exact Hm.out.trail x h; obtain ⟨a, -, rfl⟩ := List.mem_map.1 h; rfl) hat0 (by rw [List.length_append, marksD_len])
      have hw0 : IntKind.i64.wrap ((m.trail.length : Int) + (i : Int)) = (jj0 : Int) := by rw [IntWalk.i64_in _ (by omega)]; omega
      have hjl0 : jj0 < m.trail.length + 70 := by omega
      have hji0 : (jj0 : Int) < (m.trail.length : Int) + 70 := by omega
      have v0 := ((B1.out.chg (C1.out.trans hc) (fun h => h)).mf Hm.out.hd).t.trans (congrArg some X0.out)
      obtain ⟨jj1, hjj1⟩ : ∃ jj, jj = m.since.length + i := ⟨_, rfl⟩
      have hat1 : (m.since ++ marksD 2 70)[jj1]? = some (markD 2 i) := by rw [hjj1, app_at]; simp [marksD, hp]
      have hcl1 := own_at70 (f := fun x => bys x) (own_chg Hown1.out hc (fun _ _ h => h)) (fun x hx => by rw [bys_length]; rcases List.mem_append.1 hx with h | h; exact Hm.out.since x h; obtain ⟨a, -, rfl⟩ := List.mem_map.1 h; rfl) hat1 (by rw [List.length_append, marksD_len])
      have hw1 : IntKind.i64.wrap ((m.since.length : Int) + (i : Int)) = (jj1 : Int) := by rw [IntWalk.i64_in _ (by omega)]; omega
      have hjl1 : jj1 < m.since.length + 70 := by omega
      have hji1 : (jj1 : Int) < (m.since.length : Int) + 70 := by omega
      have v1 := ((B1.out.chg (C1.out.trans hc) (fun h => h)).mf Hm.out.hd).s.trans (congrArg some X1.out)
      obtain ⟨jj2, hjj2⟩ : ∃ jj, jj = m.pairs.length + i := ⟨_, rfl⟩
      have hat2 : (m.pairs ++ marksP 70)[jj2]? = some (markP i) := by rw [hjj2, app_at]; simp [marksP, hp]
      have hcl2 := own_at70 (f := fun x => [S x.1, S x.2]) (own_chg Hown2.out hc (fun _ _ h => h)) (fun x hx => rfl) hat2 (by rw [List.length_append, marksP_len])
      have hw2 : IntKind.i64.wrap ((m.pairs.length : Int) + (i : Int)) = (jj2 : Int) := by rw [IntWalk.i64_in _ (by omega)]; omega
      have hjl2 : jj2 < m.pairs.length + 70 := by omega
      have hji2 : (jj2 : Int) < (m.pairs.length : Int) + 70 := by omega
      have v2 := ((B1.out.chg (C1.out.trans hc) (fun h => h)).mf Hm.out.hd).p.trans (congrArg some X2.out)
      obtain ⟨jj3, hjj3⟩ : ∃ jj, jj = m.way.length + i := ⟨_, rfl⟩
      have hat3 : (m.way ++ marksY 70)[jj3]? = some (markY i) := by rw [hjj3, app_at]; simp [marksY, hp]
      have hcl3 := own_at70 (f := fun x => [.int .i64 x]) (own_chg Hown3.out hc (fun _ _ h => h)) (fun x hx => rfl) hat3 (by rw [List.length_append, marksY_len])
      have hw3 : IntKind.i64.wrap ((m.way.length : Int) + (i : Int)) = (jj3 : Int) := by rw [IntWalk.i64_in _ (by omega)]; omega
      have hjl3 : jj3 < m.way.length + 70 := by omega
      have hji3 : (jj3 : Int) < (m.way.length : Int) + 70 := by omega
      have v3 := ((B1.out.chg (C1.out.trans hc) (fun h => h)).mf Hm.out.hd).y.trans (congrArg some X3.out)
      have m2a := hcl2 0 _ rfl
      have m2b := hcl2 1 _ rfl
      have m3a := hcl3 0 _ rfl
      simp only [Nat.add_zero, Nat.mul_one] at m2a m3a
      have hcv8 : IntKind.u8.wrap (i : Int) = (i : Int) := by rw [IntKind.wrap_u8]; omega
      have hsub : IntKind.i64.wrap (-100 - (i : Int)) = -100 - (i : Int) := IntWalk.i64_in _ (by omega)
      have hu := under_digest
      have hsz1 : (Tryz.prog.info? 27).map (·.size) = some (bys (markD 1 i)).length := by rw [bys_length]; exact info_digest
      have hsz2 : (Tryz.prog.info? 27).map (·.size) = some (bys (markD 2 i)).length := by rw [bys_length]; exact info_digest
      have hne1 := neq_mark 1 1 i rfl (by omega)
      have hne2 := neq_mark 2 2 i rfl (by omega)
      have hne3 := fun w => neq_pair (([109, 97, 114, 107] : List UInt8), [UInt8.ofNat i]) (([109, 97, 114, 107] : List UInt8), [UInt8.ofNat i]) w
      simp only [decide_eq_true (show (([109, 97, 114, 107] : List UInt8), [UInt8.ofNat i]) = (([109, 97, 114, 107] : List UInt8), [UInt8.ofNat i]) from rfl), Bool.not_true] at hne3
      have hgd := guard_digest
      have hgp := guard_pair
      have hcv := fun w => conv_new w (i : Int) (UInt8.ofNat i) (by simp; omega)
      have hcvd := fun w => conv_newd w (i : Int) (UInt8.ofNat i) (by simp; omega)
      have Vs : Hid (wr.cell? ⟨w.heap.size + 1, 79, none⟩ = some (.slice A0 m.trail.length c0) ∧ wr.cell? ⟨w.heap.size + 1, 80, none⟩ = some (.slice A1 m.since.length c1) ∧ wr.cell? ⟨w.heap.size + 1, 81, none⟩ = some (.slice A2 m.pairs.length c2) ∧ wr.cell? ⟨w.heap.size + 1, 82, none⟩ = some (.slice A3 m.way.length c3) ∧ wr.rangeAt gg0 (jj0 * 32) (bys (markD 1 i)) ∧ wr.rangeAt gg1 (jj1 * 32) (bys (markD 2 i)) ∧ wr.cell? ⟨gg2, jj2 * 2, none⟩ = some (S [109, 97, 114, 107]) ∧ wr.cell? ⟨gg2, jj2 * 2 + 1, none⟩ = some (S [UInt8.ofNat i]) ∧ wr.cell? ⟨gg3, jj3, none⟩ = some (.int .i64 (-100 - (i : Int)))) := Lib.hid ⟨v0, v1, v2, v3, hcl0, hcl1, m2a, m2b, m3a⟩
      have Kp : Hid (∀ w1 w2, (w1.cell? ⟨w.heap.size + 1, 79, none⟩ = some (.slice A0 m.trail.length c0) ∧ w1.cell? ⟨w.heap.size + 1, 80, none⟩ = some (.slice A1 m.since.length c1) ∧ w1.cell? ⟨w.heap.size + 1, 81, none⟩ = some (.slice A2 m.pairs.length c2) ∧ w1.cell? ⟨w.heap.size + 1, 82, none⟩ = some (.slice A3 m.way.length c3) ∧ w1.rangeAt gg0 (jj0 * 32) (bys (markD 1 i)) ∧ w1.rangeAt gg1 (jj1 * 32) (bys (markD 2 i)) ∧ w1.cell? ⟨gg2, jj2 * 2, none⟩ = some (S [109, 97, 114, 107]) ∧ w1.cell? ⟨gg2, jj2 * 2 + 1, none⟩ = some (S [UInt8.ofNat i]) ∧ w1.cell? ⟨gg3, jj3, none⟩ = some (.int .i64 (-100 - (i : Int)))) → Chg (fun _ => False) w1 w2 → (w2.cell? ⟨w.heap.size + 1, 79, none⟩ = some (.slice A0 m.trail.length c0) ∧ w2.cell? ⟨w.heap.size + 1, 80, none⟩ = some (.slice A1 m.since.length c1) ∧ w2.cell? ⟨w.heap.size + 1, 81, none⟩ = some (.slice A2 m.pairs.length c2) ∧ w2.cell? ⟨w.heap.size + 1, 82, none⟩ = some (.slice A3 m.way.length c3) ∧ w2.rangeAt gg0 (jj0 * 32) (bys (markD 1 i)) ∧ w2.rangeAt gg1 (jj1 * 32) (bys (markD 2 i)) ∧ w2.cell? ⟨gg2, jj2 * 2, none⟩ = some (S [109, 97, 114, 107]) ∧ w2.cell? ⟨gg2, jj2 * 2 + 1, none⟩ = some (S [UInt8.ofNat i]) ∧ w2.cell? ⟨gg3, jj3, none⟩ = some (.int .i64 (-100 - (i : Int))))) := Lib.hid (fun w1 w2 h hc => ⟨keepC hc (fun h => h) h.1, keepC hc (fun h => h) h.2.1, keepC hc (fun h => h) h.2.2.1, keepC hc (fun h => h) h.2.2.2.1, fun j u hu => keepC hc (fun h => h) (h.2.2.2.2.1 j u hu), fun j u hu => keepC hc (fun h => h) (h.2.2.2.2.2.1 j u hu), keepC hc (fun h => h) h.2.2.2.2.2.2.1, keepC hc (fun h => h) h.2.2.2.2.2.2.2.1, keepC hc (fun h => h) h.2.2.2.2.2.2.2.2⟩)
      have Hc := Lib.hid hc
      clear hcl0 hcl1 hcl2 hcl3 hat0 hat1 hat2 hat3 hjj0 hjj1 hjj2 hjj3 hc v0 v1 v2 v3 m2a m2b m3a
      go_upto_region 7 with fail
      have HT : ∀ l, tillT (fun w' => w'.cell? ⟨w.heap.size + 1, 79, none⟩ = some (.slice A0 m.trail.length c0) ∧ w'.cell? ⟨w.heap.size + 1, 80, none⟩ = some (.slice A1 m.since.length c1) ∧ w'.cell? ⟨w.heap.size + 1, 81, none⟩ = some (.slice A2 m.pairs.length c2) ∧ w'.cell? ⟨w.heap.size + 1, 82, none⟩ = some (.slice A3 m.way.length c3) ∧ w'.rangeAt gg0 (jj0 * 32) (bys (markD 1 i)) ∧ w'.rangeAt gg1 (jj1 * 32) (bys (markD 2 i)) ∧ w'.cell? ⟨gg2, jj2 * 2, none⟩ = some (S [109, 97, 114, 107]) ∧ w'.cell? ⟨gg2, jj2 * 2 + 1, none⟩ = some (S [UInt8.ofNat i]) ∧ w'.cell? ⟨gg3, jj3, none⟩ = some (.int .i64 (-100 - (i : Int)))) (fun _ => True) 99 l wr.drew := fun l => ⟨Vs.out, fun _ => trivial⟩
      refine Till.start (T := tillT (fun w' => w'.cell? ⟨w.heap.size + 1, 79, none⟩ = some (.slice A0 m.trail.length c0) ∧ w'.cell? ⟨w.heap.size + 1, 80, none⟩ = some (.slice A1 m.since.length c1) ∧ w'.cell? ⟨w.heap.size + 1, 81, none⟩ = some (.slice A2 m.pairs.length c2) ∧ w'.cell? ⟨w.heap.size + 1, 82, none⟩ = some (.slice A3 m.way.length c3) ∧ w'.rangeAt gg0 (jj0 * 32) (bys (markD 1 i)) ∧ w'.rangeAt gg1 (jj1 * 32) (bys (markD 2 i)) ∧ w'.cell? ⟨gg2, jj2 * 2, none⟩ = some (S [109, 97, 114, 107]) ∧ w'.cell? ⟨gg2, jj2 * 2 + 1, none⟩ = some (S [UInt8.ofNat i]) ∧ w'.cell? ⟨gg3, jj3, none⟩ = some (.int .i64 (-100 - (i : Int)))) (fun _ => True) 99) (by kernel_rfl) ?_
      refine Till.take1 (i := 0) (v := ?v0) rfl (by kernel_rfl) (by kernel_rfl) (by kernel_rfl) rfl (fun _ _ _ h => h) (.inl ⟨by rfl, fun w1 hw1 => ?y0⟩) (HT _) ?r0
      case y0 => (obtain ⟨z1, z2, z3, z4, z5, z6, z7, z8, z9⟩ := hw1; clear z5 z6; go_simp; try with_reducible rfl)
      refine Till.take1 (i := 1) (v := ?v1) rfl (by kernel_rfl) (by kernel_rfl) (by kernel_rfl) rfl (fun _ _ _ h => h) (.inl ⟨by rfl, fun w1 hw1 => ?y1⟩) (HT _) ?r1
      case y1 => (obtain ⟨z1, z2, z3, z4, z5, z6, z7, z8, z9⟩ := hw1; clear z5 z6; go_simp; try with_reducible rfl)
      refine Till.take1 (i := 2) (v := ?v2) rfl (by kernel_rfl) (by kernel_rfl) (by kernel_rfl) rfl (fun _ _ _ h => h) (.inl ⟨by rfl, fun w1 hw1 => ?y2⟩) (HT _) ?r2
      case y2 => (obtain ⟨z1, z2, z3, z4, z5, z6, z7, z8, z9⟩ := hw1; clear z5 z6; go_simp; try with_reducible rfl)
      refine Till.take1 (i := 3) (v := ?v3) rfl (by kernel_rfl) (by kernel_rfl) (by kernel_rfl) rfl (fun _ _ _ h => h) (.inl ⟨by rfl, fun w1 hw1 => ?y3⟩) (HT _) ?r3
      case y3 => (obtain ⟨z1, z2, z3, z4, z5, z6, z7, z8, z9⟩ := hw1; clear z5 z6; go_simp; try with_reducible rfl)
      refine Till.take1 (i := 4) (v := ?v4) rfl (by kernel_rfl) (by kernel_rfl) (by kernel_rfl) rfl (fun _ _ _ h => h) (.inl ⟨by rfl, fun w1 hw1 => ?y4⟩) (HT _) ?r4
      case y4 => (obtain ⟨z1, z2, z3, z4, z5, z6, z7, z8, z9⟩ := hw1; clear z5 z6; go_simp; try with_reducible rfl)
      refine Till.take1 (i := 5) (v := ?v5) rfl (by kernel_rfl) (by kernel_rfl) (by kernel_rfl) rfl (fun _ _ _ h => h) (.inl ⟨by rfl, fun w1 hw1 => ?y5⟩) (HT _) ?r5
      case y5 => (obtain ⟨z1, z2, z3, z4, z5, z6, z7, z8, z9⟩ := hw1; clear z5 z6; go_simp; try with_reducible rfl)
      refine Till.take1 (i := 6) (v := ?v6) rfl (by kernel_rfl) (by kernel_rfl) (by kernel_rfl) rfl (fun _ _ _ h => h) (.inl ⟨by rfl, fun w1 hw1 => ?y6⟩) (HT _) ?r6
      case y6 => (obtain ⟨z1, z2, z3, z4, z5, z6, z7, z8, z9⟩ := hw1; clear z5 z6; go_simp; try with_reducible rfl)
      refine Till.take1 (i := 7) (v := .agg (bys (markD 1 i)).toArray) rfl (by kernel_rfl) (by kernel_rfl) (by kernel_rfl) rfl (fun _ _ _ h => h) (yieldsIf_load_mid (by kernel_rfl) 27 (.tmp 52) rfl gg0 (jj0 * 32) (by go_simp) (bys (markD 1 i)) _ (fun w1 h => h.2.2.2.2.1) hu rfl hsz1) (HT _) ?_
      refine Till.take1 (i := 8) (v := ?v8) rfl (by kernel_rfl) (by kernel_rfl) (by kernel_rfl) rfl (fun _ _ _ h => h) (.inl ⟨by rfl, fun w1 hw1 => ?y8⟩) (HT _) ?r8
      case y8 => (obtain ⟨z1, z2, z3, z4, z5, z6, z7, z8, z9⟩ := hw1; clear z5 z6; go_simp; try with_reducible rfl)
      refine Till.take1 (i := 9) (v := ?v9) rfl (by kernel_rfl) (by kernel_rfl) (by kernel_rfl) rfl (fun _ _ _ h => h) (.inl ⟨by rfl, fun w1 hw1 => ?y9⟩) (HT _) ?r9
      case y9 => (obtain ⟨z1, z2, z3, z4, z5, z6, z7, z8, z9⟩ := hw1; clear z5 z6; go_simp; try with_reducible rfl)
      refine Till.take1 (i := 10) (v := ?v10) rfl (by kernel_rfl) (by kernel_rfl) (by kernel_rfl) rfl (fun _ _ _ h => h) (.inl ⟨by rfl, fun w1 hw1 => ?y10⟩) (HT _) ?r10
      case y10 => (obtain ⟨z1, z2, z3, z4, z5, z6, z7, z8, z9⟩ := hw1; clear z5 z6; go_simp; try with_reducible rfl)
      refine Till.take1 (i := 11) (v := ?v11) rfl (by kernel_rfl) (by kernel_rfl) (by kernel_rfl) rfl (fun _ _ _ h => h) (.inl ⟨by rfl, fun w1 hw1 => ?y11⟩) (HT _) ?r11
      case y11 => (obtain ⟨z1, z2, z3, z4, z5, z6, z7, z8, z9⟩ := hw1; clear z5 z6; go_simp; try with_reducible rfl)
      refine Till.take1 (i := 12) (v := ?v12) rfl (by kernel_rfl) (by kernel_rfl) (by kernel_rfl) rfl (fun _ _ _ h => h) (.inl ⟨by rfl, fun w1 hw1 => ?y12⟩) (HT _) ?r12
      case y12 => (obtain ⟨z1, z2, z3, z4, z5, z6, z7, z8, z9⟩ := hw1; clear z5 z6; go_simp; try with_reducible rfl)
      refine Till.take1 (i := 13) (v := ?v13) rfl (by kernel_rfl) (by kernel_rfl) (by kernel_rfl) rfl (fun _ _ _ h => h) (.inl ⟨by kernel_rfl, fun w1 hw1 => ?y13⟩) (HT _) ?r13
      case y13 => (obtain ⟨z1, z2, z3, z4, z5, z6, z7, z8, z9⟩ := hw1; clear z5 z6; go_simp; try with_reducible rfl)
      refine Till.take1 (i := 14) (v := ?v14) rfl (by kernel_rfl) (by kernel_rfl) (by kernel_rfl) rfl (fun _ _ _ h => h) (.inl ⟨by kernel_rfl, fun w1 hw1 => ?y14⟩) (HT _) ?r14
      case y14 => (obtain ⟨z1, z2, z3, z4, z5, z6, z7, z8, z9⟩ := hw1; clear z5 z6; go_simp; try with_reducible rfl)
      refine Till.take1 (i := 15) (v := ?v15) rfl (by kernel_rfl) (by kernel_rfl) (by kernel_rfl) rfl (fun _ _ _ h => h) (.inl ⟨by kernel_rfl, fun w1 hw1 => ?y15⟩) (HT _) ?r15
      case y15 => (obtain ⟨z1, z2, z3, z4, z5, z6, z7, z8, z9⟩ := hw1; clear z5 z6; go_simp; try with_reducible rfl)
      refine Till.take1 (i := 16) (v := ?v16) rfl (by kernel_rfl) (by kernel_rfl) (by kernel_rfl) rfl (fun _ _ _ h => h) (.inl ⟨by kernel_rfl, fun w1 hw1 => ?y16⟩) (HT _) ?r16
      case y16 => (obtain ⟨z1, z2, z3, z4, z5, z6, z7, z8, z9⟩ := hw1; clear z5 z6; go_simp; try with_reducible rfl)
      refine Till.take1 (i := 17) (v := ?v17) rfl (by kernel_rfl) (by kernel_rfl) (by kernel_rfl) rfl (fun _ _ _ h => h) (.inl ⟨by kernel_rfl, fun w1 hw1 => ?y17⟩) (HT _) ?r17
      case y17 => (obtain ⟨z1, z2, z3, z4, z5, z6, z7, z8, z9⟩ := hw1; clear z5 z6; go_simp; try with_reducible rfl)
      refine Till.take1 (i := 18) (v := ?v18) rfl (by kernel_rfl) (by kernel_rfl) (by kernel_rfl) rfl (fun _ _ _ h => h) (.inl ⟨by kernel_rfl, fun w1 hw1 => ?y18⟩) (HT _) ?r18
      case y18 => (obtain ⟨z1, z2, z3, z4, z5, z6, z7, z8, z9⟩ := hw1; clear z5 z6; go_simp; try with_reducible rfl)
      refine Till.take1 (i := 19) (v := ?v19) rfl (by kernel_rfl) (by kernel_rfl) (by kernel_rfl) rfl (fun _ _ _ h => h) (.inl ⟨by kernel_rfl, fun w1 hw1 => ?y19⟩) (HT _) ?r19
      case y19 => (obtain ⟨z1, z2, z3, z4, z5, z6, z7, z8, z9⟩ := hw1; clear z5 z6; go_simp; try with_reducible rfl)
      refine Till.take1 (i := 20) (v := .agg (bys (markD 2 i)).toArray) rfl (by kernel_rfl) (by kernel_rfl) (by kernel_rfl) rfl (fun _ _ _ h => h) (yieldsIf_load_mid (by kernel_rfl) 27 (.tmp 65) rfl gg1 (jj1 * 32) (by go_simp) (bys (markD 2 i)) _ (fun w1 h => h.2.2.2.2.2.1) hu rfl hsz2) (HT _) ?_
      refine Till.take1 (i := 21) (v := ?v21) rfl (by kernel_rfl) (by kernel_rfl) (by kernel_rfl) rfl (fun _ _ _ h => h) (.inl ⟨by kernel_rfl, fun w1 hw1 => ?y21⟩) (HT _) ?r21
      case y21 => (obtain ⟨z1, z2, z3, z4, z5, z6, z7, z8, z9⟩ := hw1; clear z5 z6; go_simp; try with_reducible rfl)
      refine Till.take1 (i := 22) (v := ?v22) rfl (by kernel_rfl) (by kernel_rfl) (by kernel_rfl) rfl (fun _ _ _ h => h) (.inl ⟨by kernel_rfl, fun w1 hw1 => ?y22⟩) (HT _) ?r22
      case y22 => (obtain ⟨z1, z2, z3, z4, z5, z6, z7, z8, z9⟩ := hw1; clear z5 z6; go_simp; try with_reducible rfl)
      refine Till.take1 (i := 23) (v := ?v23) rfl (by kernel_rfl) (by kernel_rfl) (by kernel_rfl) rfl (fun _ _ _ h => h) (.inl ⟨by kernel_rfl, fun w1 hw1 => ?y23⟩) (HT _) ?r23
      case y23 => (obtain ⟨z1, z2, z3, z4, z5, z6, z7, z8, z9⟩ := hw1; clear z5 z6; go_simp; try with_reducible rfl)
      refine Till.take1 (i := 24) (v := ?v24) rfl (by kernel_rfl) (by kernel_rfl) (by kernel_rfl) rfl (fun _ _ _ h => h) (.inl ⟨by kernel_rfl, fun w1 hw1 => ?y24⟩) (HT _) ?r24
      case y24 => (obtain ⟨z1, z2, z3, z4, z5, z6, z7, z8, z9⟩ := hw1; clear z5 z6; go_simp; try with_reducible rfl)
      refine Till.take1 (i := 25) (v := ?v25) rfl (by kernel_rfl) (by kernel_rfl) (by kernel_rfl) rfl (fun _ _ _ h => h) (.inl ⟨by kernel_rfl, fun w1 hw1 => ?y25⟩) (HT _) ?r25
      case y25 => (obtain ⟨z1, z2, z3, z4, z5, z6, z7, z8, z9⟩ := hw1; clear z5 z6; go_simp; try with_reducible rfl)
      refine Till.take1 (i := 26) (v := ?v26) rfl (by kernel_rfl) (by kernel_rfl) (by kernel_rfl) rfl (fun _ _ _ h => h) (.inl ⟨by kernel_rfl, fun w1 hw1 => ?y26⟩) (HT _) ?r26
      case y26 => (obtain ⟨z1, z2, z3, z4, z5, z6, z7, z8, z9⟩ := hw1; clear z5 z6; go_simp; try with_reducible rfl)
      refine Till.take1 (i := 27) (v := ?v27) rfl (by kernel_rfl) (by kernel_rfl) (by kernel_rfl) rfl (fun _ _ _ h => h) (.inl ⟨by kernel_rfl, fun w1 hw1 => ?y27⟩) (HT _) ?r27
      case y27 => (obtain ⟨z1, z2, z3, z4, z5, z6, z7, z8, z9⟩ := hw1; clear z5 z6; go_simp; try with_reducible rfl)
      refine Till.take1 (i := 28) (v := ?v28) rfl (by kernel_rfl) (by kernel_rfl) (by kernel_rfl) rfl (fun _ _ _ h => h) (.inl ⟨by kernel_rfl, fun w1 hw1 => ?y28⟩) (HT _) ?r28
      case y28 => (obtain ⟨z1, z2, z3, z4, z5, z6, z7, z8, z9⟩ := hw1; clear z5 z6; go_simp; try with_reducible rfl)
      refine Till.take1 (i := 29) (v := ?v29) rfl (by kernel_rfl) (by kernel_rfl) (by kernel_rfl) rfl (fun _ _ _ h => h) (.inl ⟨by kernel_rfl, fun w1 hw1 => ?y29⟩) (HT _) ?r29
      case y29 => (obtain ⟨z1, z2, z3, z4, z5, z6, z7, z8, z9⟩ := hw1; clear z5 z6; go_simp; try with_reducible rfl)
      refine Till.take1 (i := 30) (v := ?v30) rfl (by kernel_rfl) (by kernel_rfl) (by kernel_rfl) rfl (fun _ _ _ h => h) (.inl ⟨by kernel_rfl, fun w1 hw1 => ?y30⟩) (HT _) ?r30
      case y30 => (obtain ⟨z1, z2, z3, z4, z5, z6, z7, z8, z9⟩ := hw1; clear z5 z6; go_simp; try with_reducible rfl)
      refine Till.take1 (i := 31) (v := ?v31) rfl (by kernel_rfl) (by kernel_rfl) (by kernel_rfl) rfl (fun _ _ _ h => h) (.inl ⟨by kernel_rfl, fun w1 hw1 => ?y31⟩) (HT _) ?r31
      case y31 => (obtain ⟨z1, z2, z3, z4, z5, z6, z7, z8, z9⟩ := hw1; clear z5 z6; go_simp; try with_reducible rfl)
      refine Till.take1 (i := 32) (v := ?v32) rfl (by kernel_rfl) (by kernel_rfl) (by kernel_rfl) rfl (fun _ _ _ h => h) (.inl ⟨by kernel_rfl, fun w1 hw1 => ?y32⟩) (HT _) ?r32
      case y32 => (obtain ⟨z1, z2, z3, z4, z5, z6, z7, z8, z9⟩ := hw1; clear z5 z6; go_simp; try with_reducible rfl)
      refine Till.take1 (i := 33) (v := ?v33) rfl (by kernel_rfl) (by kernel_rfl) (by kernel_rfl) rfl (fun _ _ _ h => h) (.inl ⟨by kernel_rfl, fun w1 hw1 => ?y33⟩) (HT _) ?r33
      case y33 => (obtain ⟨z1, z2, z3, z4, z5, z6, z7, z8, z9⟩ := hw1; clear z5 z6; go_simp; try with_reducible rfl)
      refine Till.take1 (i := 34) (v := ?v34) rfl (by kernel_rfl) (by kernel_rfl) (by kernel_rfl) rfl (fun _ _ _ h => h) (.inl ⟨by kernel_rfl, fun w1 hw1 => ?y34⟩) (HT _) ?r34
      case y34 => (obtain ⟨z1, z2, z3, z4, z5, z6, z7, z8, z9⟩ := hw1; clear z5 z6; go_simp; try with_reducible rfl)
      refine Till.take1 (i := 35) (v := ?v35) rfl (by kernel_rfl) (by kernel_rfl) (by kernel_rfl) rfl (fun _ _ _ h => h) (.inl ⟨by kernel_rfl, fun w1 hw1 => ?y35⟩) (HT _) ?r35
      case y35 => (obtain ⟨z1, z2, z3, z4, z5, z6, z7, z8, z9⟩ := hw1; clear z5 z6; go_simp; try with_reducible rfl)
      refine Till.take1 (i := 36) (v := ?v36) rfl (by kernel_rfl) (by kernel_rfl) (by kernel_rfl) rfl (fun _ _ _ h => h) (.inl ⟨by kernel_rfl, fun w1 hw1 => ?y36⟩) (HT _) ?r36
      case y36 => (obtain ⟨z1, z2, z3, z4, z5, z6, z7, z8, z9⟩ := hw1; clear z5 z6; go_simp; try with_reducible rfl)
      refine Till.one (i := 37) (by kernel_rfl) rfl (by kernel_rfl) ?_
      intro K1 hK1
      go_simp
      have s1 := Kp.out _ (wr.alloc (.cells #[.int .u8 i] 5)).drew Vs.out (((Chg.refl _ wr).alloc _).drew)
      refine hK1 _ _ ⟨s1, fun _ => trivial⟩ ?_
      clear hK1 K1
      refine Till.one (i := 38) (by kernel_rfl) rfl (by kernel_rfl) ?_
      intro K1 hK1
      go_simp
      refine hK1 _ _ ⟨s1, fun _ => trivial⟩ ?_
      clear hK1 K1
      refine Till.take1 (i := 39) (v := ?v39) rfl (by kernel_rfl) (by kernel_rfl) (by kernel_rfl) rfl (fun _ _ _ h => h) (.inl ⟨by kernel_rfl, fun w1 hw1 => ?y39⟩) ⟨s1, fun _ => trivial⟩ ?r39
      case y39 => (obtain ⟨z1, z2, z3, z4, z5, z6, z7, z8, z9⟩ := hw1; clear z5 z6; go_simp; try with_reducible rfl)
      refine Till.take1 (i := 40) (v := ?v40) rfl (by kernel_rfl) (by kernel_rfl) (by kernel_rfl) rfl (fun _ _ _ h => h) (.inl ⟨by kernel_rfl, fun w1 hw1 => ?y40⟩) ⟨s1, fun _ => trivial⟩ ?r40
      case y40 => (obtain ⟨z1, z2, z3, z4, z5, z6, z7, z8, z9⟩ := hw1; clear z5 z6; go_simp; try with_reducible rfl)
      refine Till.take1 (i := 41) (v := ?v41) rfl (by kernel_rfl) (by kernel_rfl) (by kernel_rfl) rfl (fun _ _ _ h => h) (.inl ⟨by kernel_rfl, fun w1 hw1 => ?y41⟩) ⟨s1, fun _ => trivial⟩ ?r41
      case y41 => (obtain ⟨z1, z2, z3, z4, z5, z6, z7, z8, z9⟩ := hw1; clear z5 z6; go_simp; try with_reducible rfl)
      refine Till.take1 (i := 42) (v := ?v42) rfl (by kernel_rfl) (by kernel_rfl) (by kernel_rfl) rfl (fun _ _ _ h => h) (.inl ⟨by kernel_rfl, fun w1 hw1 => ?y42⟩) ⟨s1, fun _ => trivial⟩ ?r42
      case y42 => (obtain ⟨z1, z2, z3, z4, z5, z6, z7, z8, z9⟩ := hw1; clear z5 z6; go_simp; try with_reducible rfl)
      refine Till.take1 (i := 43) (v := ?v43) rfl (by kernel_rfl) (by kernel_rfl) (by kernel_rfl) rfl (fun _ _ _ h => h) (.inl ⟨by kernel_rfl, fun w1 hw1 => ?y43⟩) ⟨s1, fun _ => trivial⟩ ?r43
      case y43 => (obtain ⟨z1, z2, z3, z4, z5, z6, z7, z8, z9⟩ := hw1; clear z5 z6; go_simp; try with_reducible rfl)
      refine Till.take1 (i := 44) (v := ?v44) rfl (by kernel_rfl) (by kernel_rfl) (by kernel_rfl) rfl (fun _ _ _ h => h) (.inl ⟨by kernel_rfl, fun w1 hw1 => ?y44⟩) ⟨s1, fun _ => trivial⟩ ?r44
      case y44 => (obtain ⟨z1, z2, z3, z4, z5, z6, z7, z8, z9⟩ := hw1; clear z5 z6; go_simp; try with_reducible rfl)
      refine Till.take1 (i := 45) (v := ?v45) rfl (by kernel_rfl) (by kernel_rfl) (by kernel_rfl) rfl (fun _ _ _ h => h) (.inl ⟨by kernel_rfl, fun w1 hw1 => ?y45⟩) ⟨s1, fun _ => trivial⟩ ?r45
      case y45 => (obtain ⟨z1, z2, z3, z4, z5, z6, z7, z8, z9⟩ := hw1; clear z5 z6; go_simp; try with_reducible rfl)
      refine Till.take1 (i := 46) (v := ?v46) rfl (by kernel_rfl) (by kernel_rfl) (by kernel_rfl) rfl (fun _ _ _ h => h) (.inl ⟨by kernel_rfl, fun w1 hw1 => ?y46⟩) ⟨s1, fun _ => trivial⟩ ?r46
      case y46 => (obtain ⟨z1, z2, z3, z4, z5, z6, z7, z8, z9⟩ := hw1; clear z5 z6; go_simp; try with_reducible rfl)
      refine Till.take1 (i := 47) (v := ?v47) rfl (by kernel_rfl) (by kernel_rfl) (by kernel_rfl) rfl (fun _ _ _ h => h) (.inl ⟨by kernel_rfl, fun w1 hw1 => ?y47⟩) ⟨s1, fun _ => trivial⟩ ?r47
      case y47 => (obtain ⟨z1, z2, z3, z4, z5, z6, z7, z8, z9⟩ := hw1; clear z5 z6; go_simp; try with_reducible rfl)
      refine Till.take1 (i := 48) (v := ?v48) rfl (by kernel_rfl) (by kernel_rfl) (by kernel_rfl) rfl (fun _ _ _ h => h) (.inl ⟨by kernel_rfl, fun w1 hw1 => ?y48⟩) ⟨s1, fun _ => trivial⟩ ?r48
      case y48 => (obtain ⟨z1, z2, z3, z4, z5, z6, z7, z8, z9⟩ := hw1; clear z5 z6; go_simp; try with_reducible rfl)
      refine Till.take1 (i := 49) (v := ?v49) rfl (by kernel_rfl) (by kernel_rfl) (by kernel_rfl) rfl (fun _ _ _ h => h) (.inl ⟨by kernel_rfl, fun w1 hw1 => ?y49⟩) ⟨s1, fun _ => trivial⟩ ?r49
      case y49 => (obtain ⟨z1, z2, z3, z4, z5, z6, z7, z8, z9⟩ := hw1; clear z5 z6; go_simp; try with_reducible rfl)
      refine Till.take1 (i := 50) (v := ?v50) rfl (by kernel_rfl) (by kernel_rfl) (by kernel_rfl) rfl (fun _ _ _ h => h) (.inl ⟨by kernel_rfl, fun w1 hw1 => ?y50⟩) ⟨s1, fun _ => trivial⟩ ?r50
      case y50 => (obtain ⟨z1, z2, z3, z4, z5, z6, z7, z8, z9⟩ := hw1; clear z5 z6; go_simp; try with_reducible rfl)
      refine Till.take1 (i := 51) (v := ?v51) rfl (by kernel_rfl) (by kernel_rfl) (by kernel_rfl) rfl (fun _ _ _ h => h) (.inl ⟨by kernel_rfl, fun w1 hw1 => ?y51⟩) ⟨s1, fun _ => trivial⟩ ?r51
      case y51 => (obtain ⟨z1, z2, z3, z4, z5, z6, z7, z8, z9⟩ := hw1; clear z5 z6; go_simp; try with_reducible rfl)
      refine Till.take1 (i := 52) (v := ?v52) rfl (by kernel_rfl) (by kernel_rfl) (by kernel_rfl) rfl (fun _ _ _ h => h) (.inl ⟨by kernel_rfl, fun w1 hw1 => ?y52⟩) ⟨s1, fun _ => trivial⟩ ?r52
      case y52 => (obtain ⟨z1, z2, z3, z4, z5, z6, z7, z8, z9⟩ := hw1; clear z5 z6; go_simp; try with_reducible rfl)
      refine Till.take1 (i := 53) (v := ?v53) rfl (by kernel_rfl) (by kernel_rfl) (by kernel_rfl) rfl (fun _ _ _ h => h) (.inl ⟨by kernel_rfl, fun w1 hw1 => ?y53⟩) ⟨s1, fun _ => trivial⟩ ?r53
      case y53 => (obtain ⟨z1, z2, z3, z4, z5, z6, z7, z8, z9⟩ := hw1; clear z5 z6; go_simp; try with_reducible rfl)
      refine Till.one (i := 54) (by kernel_rfl) rfl (by kernel_rfl) ?_
      intro K1 hK1
      go_simp
      refine hK1 _ _ ⟨s1, fun _ => trivial⟩ ?_
      clear hK1 K1
      refine Till.done (by kernel_rfl) ?_ _
      clear HT s1 hne1 hne2 hne3 hcv hcvd hgd hgp hu hsz1 hsz2 hcv8 hsub
      go_wp2_with fail
      go_roundw
      case rel => exact ⟨i + 1, by omega, by go_num, (Hc.out.alloc _).drew⟩
      case measure => simp [intOf]; omega
    case neg =>
      obtain rfl : i = 70 := by omega
      have Hc := Lib.hid (Ch.out.trans (C1.out.trans hc))
      clear hc
      go_wp2_with fail
      go_ret
      exact ⟨rfl, Hc.out⟩
end Go.Proofs.YthkfcfkkamffpaaGreat
