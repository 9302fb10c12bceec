/-
  Layer 27: the document's Same is equality. Printed by gen_zs.py.
-/
import Derived.Test.YthkfcfkkamffpaaGreatYs
import Derived.Test.YthkfcfkkamffpaaGreatZna
import Derived.Test.YthkfcfkkamffpaaGreatZnb
import Derived.Test.YthkfcfkkamffpaaGreatZnc
namespace Go.Proofs.YthkfcfkkamffpaaGreat
open Go.RowKit
set_option linter.unusedVariables false
set_option linter.unusedSimpArgs false
open Wm (M)
attribute [local go_sem ↓] ld_dig st_dig ld_head st_head ld_entry st_entry
theorem zp_snoc {α : Type} {l : List α} {k : Nat} {x : α} (h : l[k]? = some x) : l.take (k + 1) = l.take k ++ [x] := by
  rw [List.take_add_one, h]; rfl

set_option maxHeartbeats 16000000 in
set_option maxRecDepth 100000 in
theorem rsame_rest (m n : M) (L K : Ls) (w : World) (hm : Nm m) (hn : Nm n) (hl : IsL w m L) (hk : IsL w n K) :
    Calls Tryz.prog 23 #[.agg (mcells m L), .agg (mcells m K)] w fun e w' => e = .returned (.bool (decide (m.trail = n.trail ∧ m.since = n.since ∧ m.pairs = n.pairs ∧ m.way = n.way))) ∧ Chg (fun _ => False) w w' := by
  have b0 : Blk ((w.alloc (.cells (mcells m L) 36)).alloc (.cells (mcells m K) 36)) w.heap.size 36 (mcells m L) := (Blk.new w 36 (mcells m L)).alloc _
  have b1 : Blk ((w.alloc (.cells (mcells m L) 36)).alloc (.cells (mcells m K) 36)) (w.heap.size + 1) 36 (mcells m K) := by
    have := Blk.new (w.alloc (.cells (mcells m L) 36)) 36 (mcells m K)
    simpa using this
  have FM := Lib.hid (IsM.mf b0 hm.hd)
  have FN := Lib.hid (IsM.mf b1 hm.hd)
  have ch : Chg (fun _ => False) w ((w.alloc (.cells (mcells m L) 36)).alloc (.cells (mcells m K) 36)) := ((Chg.refl _ w).alloc _).alloc _
  have lm := hl.chg ch (LOff.no _)
  have ln := hk.chg ch (LOff.no _)
  have Ch := Lib.hid ch
  have Hm := Lib.hid hm
  have Hn := Lib.hid hn
  obtain ⟨A0, c0, x0, r0⟩ := lm.t
  obtain ⟨B0, d0, y0, s0⟩ := ln.t
  obtain ⟨A1, c1, x1, r1⟩ := lm.s
  obtain ⟨B1, d1, y1, s1⟩ := ln.s
  obtain ⟨A2, c2, x2, r2⟩ := lm.p
  obtain ⟨B2, d2, y2, s2⟩ := ln.p
  obtain ⟨A3, c3, x3, r3⟩ := lm.y
  obtain ⟨B3, d3, y3, s3⟩ := ln.y
  have R0 := Lib.hid r0
  have S0 := Lib.hid s0
  have R1 := Lib.hid r1
  have S1 := Lib.hid s1
  have R2 := Lib.hid r2
  have S2 := Lib.hid s2
  have R3 := Lib.hid r3
  have S3 := Lib.hid s3
  have ut := Lib.hid (FM.out.t.trans (congrArg some x0))
  have vt := Lib.hid (FN.out.t.trans (congrArg some y0))
  have us := Lib.hid (FM.out.s.trans (congrArg some x1))
  have vs := Lib.hid (FN.out.s.trans (congrArg some y1))
  have up := Lib.hid (FM.out.p.trans (congrArg some x2))
  have vp := Lib.hid (FN.out.p.trans (congrArg some y2))
  have uy := Lib.hid (FM.out.y.trans (congrArg some x3))
  have vy := Lib.hid (FN.out.y.trans (congrArg some y3))
  clear ch b0 b1 hl hk lm ln r0 r1 r2 r3 s0 s1 s2 s3 x0 x1 x2 x3 y0 y1 y2 y3
  have nt := hm.nt
  have ns := hm.ns
  have np := hm.np
  have ny := hm.ny
  have mt := hn.nt
  have ms := hn.ns
  have mp := hn.np
  have my := hn.ny
  clear hm hn
  go_enter Tryz.func23, Tryz.ntmps23
  go_upto_region 1 with fail
  generalize hWW : ((w.alloc (.cells (mcells m L) 36)).alloc (.cells (mcells m K) 36)) = W at *
  clear hWW
  have ukind := FM.out.kind
  have vkind := FN.out.kind
  have uid := FM.out.id
  have vid := FN.out.id
  have ucode := FM.out.code
  have vcode := FN.out.code
  have ukey := FM.out.key
  have vkey := FN.out.key
  have uto := FM.out.to
  have vto := FN.out.to
  have uval := FM.out.val
  have vval := FN.out.val
  have ulimit := FM.out.limit
  have vlimit := FN.out.limit
  have ufrm := FM.out.frm
  have vfrm := FN.out.frm
  have usize := FM.out.size
  have vsize := FN.out.size
  have ufound := FM.out.found
  have vfound := FN.out.found
  have umore := FM.out.more
  have vmore := FN.out.more
  have ubytes := FM.out.bytes
  have vbytes := FN.out.bytes
  have uh := ld_hd W w.heap.size m L Hm.out.hd FM.out
  have vh := ld_hd W (w.heap.size + 1) m K Hm.out.hd FN.out
  have qh := fun w => neq_hd m.hsize m.hsize m.hlog m.hlog Hm.out.hd.h Hm.out.hd.h w
  have gh := guard_head
  simp only [decide_eq_true (show m.hsize = m.hsize ∧ m.hlog = m.hlog from ⟨rfl, rfl⟩), hc, Bool.not_true] at qh
  have ue := ld_en W w.heap.size m L Hm.out.hd FM.out
  have ve := ld_en W (w.heap.size + 1) m K Hm.out.hd FN.out
  have qe := fun w => neq_en m.ever m.ever m.esum m.esum m.ecnt m.ecnt m.enote m.enote Hm.out.hd.e Hm.out.hd.e w
  have ge := guard_entry
  simp only [decide_eq_true (show m.ever = m.ever ∧ m.esum = m.esum ∧ m.ecnt = m.ecnt ∧ m.enote = m.enote from ⟨rfl, rfl, rfl, rfl⟩), Bool.not_true] at qe
  go_upto_region 3 with fail
  clear ukind vkind uid vid ucode vcode ukey vkey uto vto uval vval ulimit vlimit ufrm vfrm usize vsize ufound vfound umore vmore ubytes vbytes uh vh qh gh ue ve qe ge
  have ut' := ut.out
  have vt' := vt.out
  have us' := us.out
  have vs' := vs.out
  have up' := up.out
  have vp' := vp.out
  have uy' := uy.out
  have vy' := vy.out
  by_cases hl0 : m.trail.length = n.trail.length
  case neg =>
    have qq : ((m.trail.length : Int) != (n.trail.length : Int)) = true := by rw [bne_iff_ne]; omega
    have qr : decide (m.trail.length = n.trail.length) = false := decide_eq_false hl0
    have qs : (m.trail.length != n.trail.length) = true := by rw [bne_iff_ne]; exact hl0
    have Hd := Lib.hid hl0
    clear hl0
    go_wp2_with fail
    go_ret
    exact ⟨ret_bool (decide_eq_false (fun h => Hd.out (by rw [h.1]))).symm, Ch.out⟩
  rw [← hl0] at vt'
  have Hl0 := Lib.hid hl0
  clear hl0
  have wt := Lib.hid vt'
  by_cases hl1 : m.since.length = n.since.length
  case neg =>
    have qq : ((m.since.length : Int) != (n.since.length : Int)) = true := by rw [bne_iff_ne]; omega
    have qr : decide (m.since.length = n.since.length) = false := decide_eq_false hl1
    have qs : (m.since.length != n.since.length) = true := by rw [bne_iff_ne]; exact hl1
    have Hd := Lib.hid hl1
    clear hl1
    go_wp2_with fail
    go_ret
    exact ⟨ret_bool (decide_eq_false (fun h => Hd.out (by rw [h.2.1]))).symm, Ch.out⟩
  rw [← hl1] at vs'
  have Hl1 := Lib.hid hl1
  clear hl1
  have ws := Lib.hid vs'
  by_cases hl2 : m.pairs.length = n.pairs.length
  case neg =>
    have qq : ((m.pairs.length : Int) != (n.pairs.length : Int)) = true := by rw [bne_iff_ne]; omega
    have qr : decide (m.pairs.length = n.pairs.length) = false := decide_eq_false hl2
    have qs : (m.pairs.length != n.pairs.length) = true := by rw [bne_iff_ne]; exact hl2
    have Hd := Lib.hid hl2
    clear hl2
    go_wp2_with fail
    go_ret
    exact ⟨ret_bool (decide_eq_false (fun h => Hd.out (by rw [h.2.2.1]))).symm, Ch.out⟩
  rw [← hl2] at vp'
  have Hl2 := Lib.hid hl2
  clear hl2
  have wp := Lib.hid vp'
  by_cases hl3 : m.way.length = n.way.length
  case neg =>
    have qq : ((m.way.length : Int) != (n.way.length : Int)) = true := by rw [bne_iff_ne]; omega
    have qr : decide (m.way.length = n.way.length) = false := decide_eq_false hl3
    have qs : (m.way.length != n.way.length) = true := by rw [bne_iff_ne]; exact hl3
    have Hd := Lib.hid hl3
    clear hl3
    go_wp2_with fail
    go_ret
    exact ⟨ret_bool (decide_eq_false (fun h => Hd.out (by rw [h.2.2.2]))).symm, Ch.out⟩
  rw [← hl3] at vy'
  have Hl3 := Lib.hid hl3
  clear hl3
  have wy := Lib.hid vy'
  go_upto_region 5 with fail
  clear ut' vt' us' vs' up' vp' uy' vy'
  go_wp2_with fail
  go_loopw [5] (fun iv wr => ∃ (k j : Nat), k ≤ m.trail.length ∧ iv = .int .i64 k ∧ m.trail.take k = n.trail.take k ∧ wr = W.drewN j) (fun iv _ => m.trail.length - (intOf iv).toNat)
  case atStart => exact ⟨0, 0, by omega, rfl, rfl, rfl⟩
  case round =>
    obtain ⟨k0, j0, hk0, rfl, htk, rfl⟩ := hrel
    have Htk := Lib.hid htk
    clear htk
    have ut' := ut.out
    have vt' := wt.out
    by_cases hp : k0 < m.trail.length
    case pos =>
      obtain ⟨x, hx⟩ : ∃ x, m.trail[k0]? = some x := ⟨_, List.getElem?_eq_getElem hp⟩
      obtain ⟨y, hy⟩ : ∃ y, n.trail[k0]? = some y := ⟨_, List.getElem?_eq_getElem (by have := Hl0.out; omega)⟩
      obtain ⟨b1, o1, rfl, hc1⟩ := RL.at_ (size := 32) (f := fun x => bys x) (fun x hm => by rw [bys_length]; exact Hm.out.trail x hm) R0.out hx
      obtain ⟨b2, o2, rfl, hc2⟩ := RL.at_ (size := 32) (f := fun x => bys x) (fun x hm => by rw [bys_length]; exact Hn.out.trail x hm) S0.out hy
      have hx32 := Hm.out.trail x (List.mem_of_getElem? hx)
      have hy32 := Hn.out.trail y (List.mem_of_getElem? hy)
      have hl1 := fun n => ld_mid (W.drewN n) b1 (o1 + k0 * 32) x hx32 hc1
      have hl2 := fun n => ld_mid (W.drewN n) b2 (o2 + k0 * 32) y hy32 hc2
      have hne := fun w => neq_dig x y hx32 hy32 w
      have hgp := guard_digest
      have Hx := Lib.hid hx
      have Hy := Lib.hid hy
      clear hx hy hx32 hy32 hc1 hc2
      by_cases hxy : x = y
      case pos =>
        subst hxy
        simp only [decide_eq_true (show x = x from rfl), Bool.not_true] at hne
        go_wp2_with fail
        go_quiet (fail)
        go_wp2_with fail
        go_roundw
        case rel => exact ⟨k0 + 1, j0 + nq, by omega, by go_num, by rw [zp_snoc Hx.out, zp_snoc Hy.out, Htk.out], by first | rfl | rw [World.drewN_drewN]⟩
        case measure => simp [intOf]; omega
      simp only [decide_eq_false hxy, Bool.not_false] at hne
      have Hd := Lib.hid hxy
      clear hxy
      go_wp2_with fail
      go_quiet (fail)
      go_wp2_with fail
      go_ret
      exact ⟨ret_bool (decide_eq_false (fun h => Hd.out (by have h1 := Hx.out; rw [h.1, Hy.out] at h1; injection h1 with h1; exact h1.symm))).symm, (Ch.out.drewN _).drewN _⟩
    obtain rfl : k0 = m.trail.length := by omega
    have he0 := Lib.hid (show m.trail = n.trail by have h := Htk.out; rw [List.take_length, Hl0.out, List.take_length] at h; exact h)
    go_wp2_with fail
    go_loopw [6] (fun iv wr => ∃ (k j : Nat), k ≤ m.since.length ∧ iv = .int .i64 k ∧ m.since.take k = n.since.take k ∧ wr = W.drewN j) (fun iv _ => m.since.length - (intOf iv).toNat)
    case atStart => exact ⟨0, j0, by omega, rfl, rfl, rfl⟩
    case round =>
      obtain ⟨k1, j1, hk1, rfl, htk, rfl⟩ := hrel
      have Htk := Lib.hid htk
      clear htk
      have us' := us.out
      have vs' := ws.out
      by_cases hp : k1 < m.since.length
      case pos =>
        obtain ⟨x, hx⟩ : ∃ x, m.since[k1]? = some x := ⟨_, List.getElem?_eq_getElem hp⟩
        obtain ⟨y, hy⟩ : ∃ y, n.since[k1]? = some y := ⟨_, List.getElem?_eq_getElem (by have := Hl1.out; omega)⟩
        obtain ⟨b1, o1, rfl, hc1⟩ := RL.at_ (size := 32) (f := fun x => bys x) (fun x hm => by rw [bys_length]; exact Hm.out.since x hm) R1.out hx
        obtain ⟨b2, o2, rfl, hc2⟩ := RL.at_ (size := 32) (f := fun x => bys x) (fun x hm => by rw [bys_length]; exact Hn.out.since x hm) S1.out hy
        have hx32 := Hm.out.since x (List.mem_of_getElem? hx)
        have hy32 := Hn.out.since y (List.mem_of_getElem? hy)
        have hl1 := fun n => ld_mid (W.drewN n) b1 (o1 + k1 * 32) x hx32 hc1
        have hl2 := fun n => ld_mid (W.drewN n) b2 (o2 + k1 * 32) y hy32 hc2
        have hne := fun w => neq_dig x y hx32 hy32 w
        have hgp := guard_digest
        have Hx := Lib.hid hx
        have Hy := Lib.hid hy
        clear hx hy hx32 hy32 hc1 hc2
        by_cases hxy : x = y
        case pos =>
          subst hxy
          simp only [decide_eq_true (show x = x from rfl), Bool.not_true] at hne
          go_wp2_with fail
          go_quiet (fail)
          go_wp2_with fail
          go_roundw
          case rel => exact ⟨k1 + 1, j1 + nq, by omega, by go_num, by rw [zp_snoc Hx.out, zp_snoc Hy.out, Htk.out], by first | rfl | rw [World.drewN_drewN]⟩
          case measure => simp [intOf]; omega
        simp only [decide_eq_false hxy, Bool.not_false] at hne
        have Hd := Lib.hid hxy
        clear hxy
        go_wp2_with fail
        go_quiet (fail)
        go_wp2_with fail
        go_ret
        exact ⟨ret_bool (decide_eq_false (fun h => Hd.out (by have h1 := Hx.out; rw [h.2.1, Hy.out] at h1; injection h1 with h1; exact h1.symm))).symm, (Ch.out.drewN _).drewN _⟩
      obtain rfl : k1 = m.since.length := by omega
      have he1 := Lib.hid (show m.since = n.since by have h := Htk.out; rw [List.take_length, Hl1.out, List.take_length] at h; exact h)
      go_wp2_with fail
      go_loopw [7] (fun iv wr => ∃ (k j : Nat), k ≤ m.pairs.length ∧ iv = .int .i64 k ∧ m.pairs.take k = n.pairs.take k ∧ wr = W.drewN j) (fun iv _ => m.pairs.length - (intOf iv).toNat)
      case atStart => exact ⟨0, j1, by omega, rfl, rfl, rfl⟩
      case round =>
        obtain ⟨k2, j2, hk2, rfl, htk, rfl⟩ := hrel
        have Htk := Lib.hid htk
        clear htk
        have up' := up.out
        have vp' := wp.out
        by_cases hp : k2 < m.pairs.length
        case pos =>
          obtain ⟨x, hx⟩ : ∃ x, m.pairs[k2]? = some x := ⟨_, List.getElem?_eq_getElem hp⟩
          obtain ⟨y, hy⟩ : ∃ y, n.pairs[k2]? = some y := ⟨_, List.getElem?_eq_getElem (by have := Hl2.out; omega)⟩
          obtain ⟨b1, o1, rfl, hc1⟩ := RL.at_ (size := 2) (f := fun x => [S x.1, S x.2]) (fun x hm => rfl) R2.out hx
          obtain ⟨b2, o2, rfl, hc2⟩ := RL.at_ (size := 2) (f := fun x => [S x.1, S x.2]) (fun x hm => rfl) S2.out hy
          have d1 := hc1 0 _ rfl
          have d2 := hc2 0 _ rfl
          have d3 := hc1 1 _ rfl
          have d4 := hc2 1 _ rfl
          rw [Nat.add_zero] at d1 d2
          have hne := fun w => neq_pair x y w
          have hgp := guard_pair
          have Hx := Lib.hid hx
          have Hy := Lib.hid hy
          clear hx hy hc1 hc2
          by_cases hxy : x = y
          case pos =>
            subst hxy
            simp only [decide_eq_true (show x = x from rfl), Bool.not_true] at hne
            go_wp2_with fail
            go_quiet (fail)
            go_wp2_with fail
            go_roundw
            case rel => exact ⟨k2 + 1, j2 + nq, by omega, by go_num, by rw [zp_snoc Hx.out, zp_snoc Hy.out, Htk.out], by first | rfl | rw [World.drewN_drewN]⟩
            case measure => simp [intOf]; omega
          simp only [decide_eq_false hxy, Bool.not_false] at hne
          have Hd := Lib.hid hxy
          clear hxy
          go_wp2_with fail
          go_quiet (fail)
          go_wp2_with fail
          go_ret
          exact ⟨ret_bool (decide_eq_false (fun h => Hd.out (by have h1 := Hx.out; rw [h.2.2.1, Hy.out] at h1; injection h1 with h1; exact h1.symm))).symm, (Ch.out.drewN _).drewN _⟩
        obtain rfl : k2 = m.pairs.length := by omega
        have he2 := Lib.hid (show m.pairs = n.pairs by have h := Htk.out; rw [List.take_length, Hl2.out, List.take_length] at h; exact h)
        go_wp2_with fail
        go_loopw [8] (fun iv wr => ∃ (k j : Nat), k ≤ m.way.length ∧ iv = .int .i64 k ∧ m.way.take k = n.way.take k ∧ wr = W.drewN j) (fun iv _ => m.way.length - (intOf iv).toNat)
        case atStart => exact ⟨0, j2, by omega, rfl, rfl, rfl⟩
        case round =>
          obtain ⟨k3, j3, hk3, rfl, htk, rfl⟩ := hrel
          have Htk := Lib.hid htk
          clear htk
          have uy' := uy.out
          have vy' := wy.out
          by_cases hp : k3 < m.way.length
          case pos =>
            obtain ⟨x, hx⟩ : ∃ x, m.way[k3]? = some x := ⟨_, List.getElem?_eq_getElem hp⟩
            obtain ⟨y, hy⟩ : ∃ y, n.way[k3]? = some y := ⟨_, List.getElem?_eq_getElem (by have := Hl3.out; omega)⟩
            obtain ⟨b1, o1, rfl, hc1⟩ := RL.at_ (size := 1) (f := fun x => [.int .i64 x]) (fun x hm => rfl) R3.out hx
            obtain ⟨b2, o2, rfl, hc2⟩ := RL.at_ (size := 1) (f := fun x => [.int .i64 x]) (fun x hm => rfl) S3.out hy
            have d1 := hc1 0 _ rfl
            have d2 := hc2 0 _ rfl
            simp only [Nat.add_zero, Nat.mul_one] at d1 d2
            have Hx := Lib.hid hx
            have Hy := Lib.hid hy
            clear hx hy hc1 hc2
            by_cases hxy : x = y
            case pos =>
              subst hxy
              go_wp2_with fail
              go_quiet (fail)
              go_wp2_with fail
              go_roundw
              case rel => exact ⟨k3 + 1, j3 + nq, by omega, by go_num, by rw [zp_snoc Hx.out, zp_snoc Hy.out, Htk.out], by first | rfl | rw [World.drewN_drewN]⟩
              case measure => simp [intOf]; omega
            have qq : (x != y) = true := by rw [bne_iff_ne]; exact hxy
            have qr : decide (x = y) = false := decide_eq_false hxy
            have Hd := Lib.hid hxy
            clear hxy
            go_wp2_with fail
            go_quiet (fail)
            go_wp2_with fail
            go_ret
            exact ⟨ret_bool (decide_eq_false (fun h => Hd.out (by have h1 := Hx.out; rw [h.2.2.2, Hy.out] at h1; injection h1 with h1; exact h1.symm))).symm, (Ch.out.drewN _).drewN _⟩
          obtain rfl : k3 = m.way.length := by omega
          have he3 := Lib.hid (show m.way = n.way by have h := Htk.out; rw [List.take_length, Hl3.out, List.take_length] at h; exact h)
          go_wp2_with fail
          go_ret
          exact ⟨ret_bool (decide_eq_true ⟨he0.out, he1.out, he2.out, he3.out⟩).symm, Ch.out.drewN _⟩
end Go.Proofs.YthkfcfkkamffpaaGreat
namespace Go.Proofs.YthkfcfkkamffpaaGreat
open Go.RowKit
set_option linter.unusedVariables false
set_option linter.unusedSimpArgs false
open Wm (M)
theorem mc_eq (m n : M) (K : Ls) (e0 : m.kind = n.kind) (e1 : m.id = n.id) (e2 : m.code = n.code) (e3 : m.key = n.key) (e4 : m.to = n.to) (e5 : m.val = n.val) (e6 : m.limit = n.limit) (e7 : m.frm = n.frm) (e8 : m.size = n.size) (e9 : m.found = n.found) (e10 : m.more = n.more) (e11 : (m.hsize = n.hsize ∧ m.hlog = n.hlog)) (e12 : (m.ever = n.ever ∧ m.esum = n.esum ∧ m.ecnt = n.ecnt ∧ m.enote = n.enote)) (e13 : m.bytes = n.bytes) : mcells n K = mcells m K := by
  cases m; cases n
  dsimp only at *
  subst e0
  subst e1
  subst e2
  subst e3
  subst e4
  subst e5
  subst e6
  subst e7
  subst e8
  subst e9
  subst e10
  obtain ⟨rfl, rfl⟩ := e11
  obtain ⟨rfl, rfl, rfl, rfl⟩ := e12
  subst e13
  rfl
theorem m_eq (m n : M) (e0 : m.kind = n.kind) (e1 : m.id = n.id) (e2 : m.code = n.code) (e3 : m.key = n.key) (e4 : m.to = n.to) (e5 : m.val = n.val) (e6 : m.limit = n.limit) (e7 : m.frm = n.frm) (e8 : m.size = n.size) (e9 : m.found = n.found) (e10 : m.more = n.more) (e11 : (m.hsize = n.hsize ∧ m.hlog = n.hlog)) (e12 : (m.ever = n.ever ∧ m.esum = n.esum ∧ m.ecnt = n.ecnt ∧ m.enote = n.enote)) (e13 : m.bytes = n.bytes) (h : m.trail = n.trail ∧ m.since = n.since ∧ m.pairs = n.pairs ∧ m.way = n.way) : m = n := by
  cases m; cases n
  dsimp only at *
  obtain ⟨rfl, rfl, rfl, rfl⟩ := h
  subst e0
  subst e1
  subst e2
  subst e3
  subst e4
  subst e5
  subst e6
  subst e7
  subst e8
  subst e9
  subst e10
  obtain ⟨rfl, rfl⟩ := e11
  obtain ⟨rfl, rfl, rfl, rfl⟩ := e12
  subst e13
  rfl
theorem rsame_calls (m n : M) (L K : Ls) (w : World) (hm : Nm m) (hn : Nm n) (hl : IsL w m L) (hk : IsL w n K) :
    Calls Tryz.prog 23 #[.agg (mcells m L), .agg (mcells n K)] w fun e w' => e = .returned (.bool (decide (m = n))) ∧ Chg (fun _ => False) w w' := by
  by_cases e0 : m.kind = n.kind
  case neg => rw [decide_eq_false (fun h => e0 (by rw [h]))]; exact rsame_no0 m n L K w hm hn hl hk e0
  by_cases e1 : m.id = n.id
  case neg => rw [decide_eq_false (fun h => e1 (by rw [h]))]; exact rsame_no1 m n L K w hm hn hl hk e0 e1
  by_cases e2 : m.code = n.code
  case neg => rw [decide_eq_false (fun h => e2 (by rw [h]))]; exact rsame_no2 m n L K w hm hn hl hk e0 e1 e2
  by_cases e3 : m.key = n.key
  case neg => rw [decide_eq_false (fun h => e3 (by rw [h]))]; exact rsame_no3 m n L K w hm hn hl hk e0 e1 e2 e3
  by_cases e4 : m.to = n.to
  case neg => rw [decide_eq_false (fun h => e4 (by rw [h]))]; exact rsame_no4 m n L K w hm hn hl hk e0 e1 e2 e3 e4
  by_cases e5 : m.val = n.val
  case neg => rw [decide_eq_false (fun h => e5 (by rw [h]))]; exact rsame_no5 m n L K w hm hn hl hk e0 e1 e2 e3 e4 e5
  by_cases e6 : m.limit = n.limit
  case neg => rw [decide_eq_false (fun h => e6 (by rw [h]))]; exact rsame_no6 m n L K w hm hn hl hk e0 e1 e2 e3 e4 e5 e6
  by_cases e7 : m.frm = n.frm
  case neg => rw [decide_eq_false (fun h => e7 (by rw [h]))]; exact rsame_no7 m n L K w hm hn hl hk e0 e1 e2 e3 e4 e5 e6 e7
  by_cases e8 : m.size = n.size
  case neg => rw [decide_eq_false (fun h => e8 (by rw [h]))]; exact rsame_no8 m n L K w hm hn hl hk e0 e1 e2 e3 e4 e5 e6 e7 e8
  by_cases e9 : m.found = n.found
  case neg => rw [decide_eq_false (fun h => e9 (by rw [h]))]; exact rsame_no9 m n L K w hm hn hl hk e0 e1 e2 e3 e4 e5 e6 e7 e8 e9
  by_cases e10 : m.more = n.more
  case neg => rw [decide_eq_false (fun h => e10 (by rw [h]))]; exact rsame_no10 m n L K w hm hn hl hk e0 e1 e2 e3 e4 e5 e6 e7 e8 e9 e10
  by_cases e11 : (m.hsize = n.hsize ∧ m.hlog = n.hlog)
  case neg => rw [decide_eq_false (fun h => e11 (by rw [h]; exact ⟨rfl, rfl⟩))]; exact rsame_no11 m n L K w hm hn hl hk e0 e1 e2 e3 e4 e5 e6 e7 e8 e9 e10 e11
  by_cases e12 : (m.ever = n.ever ∧ m.esum = n.esum ∧ m.ecnt = n.ecnt ∧ m.enote = n.enote)
  case neg => rw [decide_eq_false (fun h => e12 (by rw [h]; exact ⟨rfl, rfl, rfl, rfl⟩))]; exact rsame_no12 m n L K w hm hn hl hk e0 e1 e2 e3 e4 e5 e6 e7 e8 e9 e10 e11 e12
  by_cases e13 : m.bytes = n.bytes
  case neg => rw [decide_eq_false (fun h => e13 (by rw [h]))]; exact rsame_no13 m n L K w hm hn hl hk e0 e1 e2 e3 e4 e5 e6 e7 e8 e9 e10 e11 e12 e13
  rw [mc_eq m n K e0 e1 e2 e3 e4 e5 e6 e7 e8 e9 e10 e11 e12 e13, show decide (m = n) = decide (m.trail = n.trail ∧ m.since = n.since ∧ m.pairs = n.pairs ∧ m.way = n.way) from decide_eq_decide.2 ⟨fun h => by rw [h]; exact ⟨rfl, rfl, rfl, rfl⟩, m_eq m n e0 e1 e2 e3 e4 e5 e6 e7 e8 e9 e10 e11 e12 e13⟩]
  exact rsame_rest m n L K w hm hn hl hk
end Go.Proofs.YthkfcfkkamffpaaGreat
