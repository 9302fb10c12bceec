/-
  Layer 27: the document's Same of two messages that differ. Printed by gen_zi.py.
-/
import Derived.Test.YthkfcfkkamffpaaGreatYs
namespace Go.Proofs.YthkfcfkkamffpaaGreat
open Go.RowKit
set_option linter.unusedVariables false
set_option linter.unusedSimpArgs false
open Wm (M)
attribute [local go_sem ↓] ld_dig st_dig ld_head st_head ld_entry st_entry
set_option maxHeartbeats 16000000 in
set_option maxRecDepth 100000 in
theorem rsame_no0 (m n : M) (L K : Ls) (w : World) (hm : Nm m) (hn : Nm n) (hl : IsL w m L) (hk : IsL w n K)  (hd : ¬ m.kind = n.kind) :
    Calls Tryz.prog 23 #[.agg (mcells m L), .agg (mcells n K)] w fun e w' => e = .returned (.bool false) ∧ Chg (fun _ => False) w w' := by
  have b0 : Blk ((w.alloc (.cells (mcells m L) 36)).alloc (.cells (mcells n K) 36)) w.heap.size 36 (mcells m L) := (Blk.new w 36 (mcells m L)).alloc _
  have b1 : Blk ((w.alloc (.cells (mcells m L) 36)).alloc (.cells (mcells n K) 36)) (w.heap.size + 1) 36 (mcells n K) := by
    have := Blk.new (w.alloc (.cells (mcells m L) 36)) 36 (mcells n K)
    simpa using this
  have FM := Lib.hid (IsM.mf b0 hm.hd)
  have FN := Lib.hid (IsM.mf b1 hn.hd)
  have ch : Chg (fun _ => False) w ((w.alloc (.cells (mcells m L) 36)).alloc (.cells (mcells n K) 36)) := ((Chg.refl _ w).alloc _).alloc _
  have Ch := Lib.hid ch
  have Hm := Lib.hid hm
  have Hn := Lib.hid hn
  clear ch b0 b1 hl hk hm hn
  go_enter Tryz.func23, Tryz.ntmps23
  go_upto_region 1 with fail
  generalize hWW : ((w.alloc (.cells (mcells m L) 36)).alloc (.cells (mcells n K) 36)) = W at *
  clear hWW
  have ukind := FM.out.kind
  have vkind := FN.out.kind
  have qq : ((m.kind : Int) != (n.kind : Int)) = true := by rw [bne_iff_ne]; intro h; exact hd (by omega)
  have Hd := Lib.hid hd
  clear hd
  go_wp2_with fail
  go_ret
  exact ⟨rfl, Ch.out⟩
set_option maxHeartbeats 16000000 in
set_option maxRecDepth 100000 in
theorem rsame_no1 (m n : M) (L K : Ls) (w : World) (hm : Nm m) (hn : Nm n) (hl : IsL w m L) (hk : IsL w n K) (e0 : m.kind = n.kind) (hd : ¬ m.id = n.id) :
    Calls Tryz.prog 23 #[.agg (mcells m L), .agg (mcells n K)] w fun e w' => e = .returned (.bool false) ∧ Chg (fun _ => False) w w' := by
  have b0 : Blk ((w.alloc (.cells (mcells m L) 36)).alloc (.cells (mcells n K) 36)) w.heap.size 36 (mcells m L) := (Blk.new w 36 (mcells m L)).alloc _
  have b1 : Blk ((w.alloc (.cells (mcells m L) 36)).alloc (.cells (mcells n K) 36)) (w.heap.size + 1) 36 (mcells n K) := by
    have := Blk.new (w.alloc (.cells (mcells m L) 36)) 36 (mcells n K)
    simpa using this
  have FM := Lib.hid (IsM.mf b0 hm.hd)
  have FN := Lib.hid (IsM.mf b1 hn.hd)
  have ch : Chg (fun _ => False) w ((w.alloc (.cells (mcells m L) 36)).alloc (.cells (mcells n K) 36)) := ((Chg.refl _ w).alloc _).alloc _
  have Ch := Lib.hid ch
  have Hm := Lib.hid hm
  have Hn := Lib.hid hn
  clear ch b0 b1 hl hk hm hn
  go_enter Tryz.func23, Tryz.ntmps23
  go_upto_region 1 with fail
  generalize hWW : ((w.alloc (.cells (mcells m L) 36)).alloc (.cells (mcells n K) 36)) = W at *
  clear hWW
  have ukind := FM.out.kind
  have vkind := FN.out.kind
  rw [← e0] at vkind
  have uid := FM.out.id
  have vid := FN.out.id
  have qq : ((m.id : Int) != (n.id : Int)) = true := by rw [bne_iff_ne]; intro h; exact hd (by omega)
  clear e0
  have Hd := Lib.hid hd
  clear hd
  go_wp2_with fail
  go_ret
  exact ⟨rfl, Ch.out⟩
set_option maxHeartbeats 16000000 in
set_option maxRecDepth 100000 in
theorem rsame_no2 (m n : M) (L K : Ls) (w : World) (hm : Nm m) (hn : Nm n) (hl : IsL w m L) (hk : IsL w n K) (e0 : m.kind = n.kind) (e1 : m.id = n.id) (hd : ¬ m.code = n.code) :
    Calls Tryz.prog 23 #[.agg (mcells m L), .agg (mcells n K)] w fun e w' => e = .returned (.bool false) ∧ Chg (fun _ => False) w w' := by
  have b0 : Blk ((w.alloc (.cells (mcells m L) 36)).alloc (.cells (mcells n K) 36)) w.heap.size 36 (mcells m L) := (Blk.new w 36 (mcells m L)).alloc _
  have b1 : Blk ((w.alloc (.cells (mcells m L) 36)).alloc (.cells (mcells n K) 36)) (w.heap.size + 1) 36 (mcells n K) := by
    have := Blk.new (w.alloc (.cells (mcells m L) 36)) 36 (mcells n K)
    simpa using this
  have FM := Lib.hid (IsM.mf b0 hm.hd)
  have FN := Lib.hid (IsM.mf b1 hn.hd)
  have ch : Chg (fun _ => False) w ((w.alloc (.cells (mcells m L) 36)).alloc (.cells (mcells n K) 36)) := ((Chg.refl _ w).alloc _).alloc _
  have Ch := Lib.hid ch
  have Hm := Lib.hid hm
  have Hn := Lib.hid hn
  clear ch b0 b1 hl hk hm hn
  go_enter Tryz.func23, Tryz.ntmps23
  go_upto_region 1 with fail
  generalize hWW : ((w.alloc (.cells (mcells m L) 36)).alloc (.cells (mcells n K) 36)) = W at *
  clear hWW
  have ukind := FM.out.kind
  have vkind := FN.out.kind
  rw [← e0] at vkind
  have uid := FM.out.id
  have vid := FN.out.id
  rw [← e1] at vid
  have ucode := FM.out.code
  have vcode := FN.out.code
  have qq : (m.code != n.code) = true := by rw [bne_iff_ne]; exact hd
  clear e0 e1
  have Hd := Lib.hid hd
  clear hd
  go_wp2_with fail
  go_ret
  exact ⟨rfl, Ch.out⟩
set_option maxHeartbeats 16000000 in
set_option maxRecDepth 100000 in
theorem rsame_no3 (m n : M) (L K : Ls) (w : World) (hm : Nm m) (hn : Nm n) (hl : IsL w m L) (hk : IsL w n K) (e0 : m.kind = n.kind) (e1 : m.id = n.id) (e2 : m.code = n.code) (hd : ¬ m.key = n.key) :
    Calls Tryz.prog 23 #[.agg (mcells m L), .agg (mcells n K)] w fun e w' => e = .returned (.bool false) ∧ Chg (fun _ => False) w w' := by
  have b0 : Blk ((w.alloc (.cells (mcells m L) 36)).alloc (.cells (mcells n K) 36)) w.heap.size 36 (mcells m L) := (Blk.new w 36 (mcells m L)).alloc _
  have b1 : Blk ((w.alloc (.cells (mcells m L) 36)).alloc (.cells (mcells n K) 36)) (w.heap.size + 1) 36 (mcells n K) := by
    have := Blk.new (w.alloc (.cells (mcells m L) 36)) 36 (mcells n K)
    simpa using this
  have FM := Lib.hid (IsM.mf b0 hm.hd)
  have FN := Lib.hid (IsM.mf b1 hn.hd)
  have ch : Chg (fun _ => False) w ((w.alloc (.cells (mcells m L) 36)).alloc (.cells (mcells n K) 36)) := ((Chg.refl _ w).alloc _).alloc _
  have Ch := Lib.hid ch
  have Hm := Lib.hid hm
  have Hn := Lib.hid hn
  clear ch b0 b1 hl hk hm hn
  go_enter Tryz.func23, Tryz.ntmps23
  go_upto_region 1 with fail
  generalize hWW : ((w.alloc (.cells (mcells m L) 36)).alloc (.cells (mcells n K) 36)) = W at *
  clear hWW
  have ukind := FM.out.kind
  have vkind := FN.out.kind
  rw [← e0] at vkind
  have uid := FM.out.id
  have vid := FN.out.id
  rw [← e1] at vid
  have ucode := FM.out.code
  have vcode := FN.out.code
  rw [← e2] at vcode
  have ukey := FM.out.key
  have vkey := FN.out.key
  have qs : ((⟨m.key.toArray⟩ : ByteArray).toList == (⟨n.key.toArray⟩ : ByteArray).toList) = false := by rw [strB, decide_eq_false hd]
  have qq : ((⟨m.key.toArray⟩ : ByteArray).toList != (⟨n.key.toArray⟩ : ByteArray).toList) = true := by show (!((⟨m.key.toArray⟩ : ByteArray).toList == (⟨n.key.toArray⟩ : ByteArray).toList)) = true; rw [qs]; rfl
  have qt : (m.key == n.key) = false := beq_eq_false_iff_ne.2 hd
  have qu : (m.key != n.key) = true := bne_iff_ne.2 hd
  have qr : decide ((⟨m.key.toArray⟩ : ByteArray) = (⟨n.key.toArray⟩ : ByteArray)) = false := decide_eq_false (by intro h; exact hd (by injection h with h; simpa using h))
  clear e0 e1 e2
  have Hd := Lib.hid hd
  clear hd
  go_wp2_with fail
  go_ret
  exact ⟨rfl, Ch.out⟩
set_option maxHeartbeats 16000000 in
set_option maxRecDepth 100000 in
theorem rsame_no4 (m n : M) (L K : Ls) (w : World) (hm : Nm m) (hn : Nm n) (hl : IsL w m L) (hk : IsL w n K) (e0 : m.kind = n.kind) (e1 : m.id = n.id) (e2 : m.code = n.code) (e3 : m.key = n.key) (hd : ¬ m.to = n.to) :
    Calls Tryz.prog 23 #[.agg (mcells m L), .agg (mcells n K)] w fun e w' => e = .returned (.bool false) ∧ Chg (fun _ => False) w w' := by
  have b0 : Blk ((w.alloc (.cells (mcells m L) 36)).alloc (.cells (mcells n K) 36)) w.heap.size 36 (mcells m L) := (Blk.new w 36 (mcells m L)).alloc _
  have b1 : Blk ((w.alloc (.cells (mcells m L) 36)).alloc (.cells (mcells n K) 36)) (w.heap.size + 1) 36 (mcells n K) := by
    have := Blk.new (w.alloc (.cells (mcells m L) 36)) 36 (mcells n K)
    simpa using this
  have FM := Lib.hid (IsM.mf b0 hm.hd)
  have FN := Lib.hid (IsM.mf b1 hn.hd)
  have ch : Chg (fun _ => False) w ((w.alloc (.cells (mcells m L) 36)).alloc (.cells (mcells n K) 36)) := ((Chg.refl _ w).alloc _).alloc _
  have Ch := Lib.hid ch
  have Hm := Lib.hid hm
  have Hn := Lib.hid hn
  clear ch b0 b1 hl hk hm hn
  go_enter Tryz.func23, Tryz.ntmps23
  go_upto_region 1 with fail
  generalize hWW : ((w.alloc (.cells (mcells m L) 36)).alloc (.cells (mcells n K) 36)) = W at *
  clear hWW
  have ukind := FM.out.kind
  have vkind := FN.out.kind
  rw [← e0] at vkind
  have uid := FM.out.id
  have vid := FN.out.id
  rw [← e1] at vid
  have ucode := FM.out.code
  have vcode := FN.out.code
  rw [← e2] at vcode
  have ukey := FM.out.key
  have vkey := FN.out.key
  rw [← e3] at vkey
  have uto := FM.out.to
  have vto := FN.out.to
  have qs : ((⟨m.to.toArray⟩ : ByteArray).toList == (⟨n.to.toArray⟩ : ByteArray).toList) = false := by rw [strB, decide_eq_false hd]
  have qq : ((⟨m.to.toArray⟩ : ByteArray).toList != (⟨n.to.toArray⟩ : ByteArray).toList) = true := by show (!((⟨m.to.toArray⟩ : ByteArray).toList == (⟨n.to.toArray⟩ : ByteArray).toList)) = true; rw [qs]; rfl
  have qt : (m.to == n.to) = false := beq_eq_false_iff_ne.2 hd
  have qu : (m.to != n.to) = true := bne_iff_ne.2 hd
  have qr : decide ((⟨m.to.toArray⟩ : ByteArray) = (⟨n.to.toArray⟩ : ByteArray)) = false := decide_eq_false (by intro h; exact hd (by injection h with h; simpa using h))
  clear e0 e1 e2 e3
  have Hd := Lib.hid hd
  clear hd
  go_wp2_with fail
  go_ret
  exact ⟨rfl, Ch.out⟩
end Go.Proofs.YthkfcfkkamffpaaGreat
