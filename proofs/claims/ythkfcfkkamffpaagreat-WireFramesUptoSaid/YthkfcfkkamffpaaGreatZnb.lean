/-
  Layer 27: the document's Same of two messages that differ. Printed by gen_zi.py.
-/
import Derived.Test.YthkfcfkkamffpaaGreatYs
namespace Go.Proofs.YthkfcfkkamffpaaGreat
open Go.RowKit
set_option linter.unusedVariables false
set_option linter.unusedSimpArgs false
open Wm (M)
attribute [local go_sem ↓] ld_dig st_dig ld_head st_head ld_entry st_entry
set_option maxHeartbeats 16000000 in
set_option maxRecDepth 100000 in
theorem rsame_no5 (m n : M) (L K : Ls) (w : World) (hm : Nm m) (hn : Nm n) (hl : IsL w m L) (hk : IsL w n K) (e0 : m.kind = n.kind) (e1 : m.id = n.id) (e2 : m.code = n.code) (e3 : m.key = n.key) (e4 : m.to = n.to) (hd : ¬ m.val = n.val) :
    Calls Tryz.prog 23 #[.agg (mcells m L), .agg (mcells n K)] w fun e w' => e = .returned (.bool false) ∧ Chg (fun _ => False) w w' := by
  have b0 : Blk ((w.alloc (.cells (mcells m L) 36)).alloc (.cells (mcells n K) 36)) w.heap.size 36 (mcells m L) := (Blk.new w 36 (mcells m L)).alloc _
  have b1 : Blk ((w.alloc (.cells (mcells m L) 36)).alloc (.cells (mcells n K) 36)) (w.heap.size + 1) 36 (mcells n K) := by
    have := Blk.new (w.alloc (.cells (mcells m L) 36)) 36 (mcells n K)
    simpa using this
  have FM := Lib.hid (IsM.mf b0 hm.hd)
  have FN := Lib.hid (IsM.mf b1 hn.hd)
  have ch : Chg (fun _ => False) w ((w.alloc (.cells (mcells m L) 36)).alloc (.cells (mcells n K) 36)) := ((Chg.refl _ w).alloc _).alloc _
  have Ch := Lib.hid ch
  have Hm := Lib.hid hm
  have Hn := Lib.hid hn
  clear ch b0 b1 hl hk hm hn
  go_enter Tryz.func23, Tryz.ntmps23
  go_upto_region 1 with fail
  generalize hWW : ((w.alloc (.cells (mcells m L) 36)).alloc (.cells (mcells n K) 36)) = W at *
  clear hWW
  have ukind := FM.out.kind
  have vkind := FN.out.kind
  rw [← e0] at vkind
  have uid := FM.out.id
  have vid := FN.out.id
  rw [← e1] at vid
  have ucode := FM.out.code
  have vcode := FN.out.code
  rw [← e2] at vcode
  have ukey := FM.out.key
  have vkey := FN.out.key
  rw [← e3] at vkey
  have uto := FM.out.to
  have vto := FN.out.to
  rw [← e4] at vto
  have uval := FM.out.val
  have vval := FN.out.val
  have qs : ((⟨m.val.toArray⟩ : ByteArray).toList == (⟨n.val.toArray⟩ : ByteArray).toList) = false := by rw [strB, decide_eq_false hd]
  have qq : ((⟨m.val.toArray⟩ : ByteArray).toList != (⟨n.val.toArray⟩ : ByteArray).toList) = true := by show (!((⟨m.val.toArray⟩ : ByteArray).toList == (⟨n.val.toArray⟩ : ByteArray).toList)) = true; rw [qs]; rfl
  have qt : (m.val == n.val) = false := beq_eq_false_iff_ne.2 hd
  have qu : (m.val != n.val) = true := bne_iff_ne.2 hd
  have qr : decide ((⟨m.val.toArray⟩ : ByteArray) = (⟨n.val.toArray⟩ : ByteArray)) = false := decide_eq_false (by intro h; exact hd (by injection h with h; simpa using h))
  clear e0 e1 e2 e3 e4
  have Hd := Lib.hid hd
  clear hd
  go_wp2_with fail
  go_ret
  exact ⟨rfl, Ch.out⟩
set_option maxHeartbeats 16000000 in
set_option maxRecDepth 100000 in
theorem rsame_no6 (m n : M) (L K : Ls) (w : World) (hm : Nm m) (hn : Nm n) (hl : IsL w m L) (hk : IsL w n K) (e0 : m.kind = n.kind) (e1 : m.id = n.id) (e2 : m.code = n.code) (e3 : m.key = n.key) (e4 : m.to = n.to) (e5 : m.val = n.val) (hd : ¬ m.limit = n.limit) :
    Calls Tryz.prog 23 #[.agg (mcells m L), .agg (mcells n K)] w fun e w' => e = .returned (.bool false) ∧ Chg (fun _ => False) w w' := by
  have b0 : Blk ((w.alloc (.cells (mcells m L) 36)).alloc (.cells (mcells n K) 36)) w.heap.size 36 (mcells m L) := (Blk.new w 36 (mcells m L)).alloc _
  have b1 : Blk ((w.alloc (.cells (mcells m L) 36)).alloc (.cells (mcells n K) 36)) (w.heap.size + 1) 36 (mcells n K) := by
    have := Blk.new (w.alloc (.cells (mcells m L) 36)) 36 (mcells n K)
    simpa using this
  have FM := Lib.hid (IsM.mf b0 hm.hd)
  have FN := Lib.hid (IsM.mf b1 hn.hd)
  have ch : Chg (fun _ => False) w ((w.alloc (.cells (mcells m L) 36)).alloc (.cells (mcells n K) 36)) := ((Chg.refl _ w).alloc _).alloc _
  have Ch := Lib.hid ch
  have Hm := Lib.hid hm
  have Hn := Lib.hid hn
  clear ch b0 b1 hl hk hm hn
  go_enter Tryz.func23, Tryz.ntmps23
  go_upto_region 1 with fail
  generalize hWW : ((w.alloc (.cells (mcells m L) 36)).alloc (.cells (mcells n K) 36)) = W at *
  clear hWW
  have ukind := FM.out.kind
  have vkind := FN.out.kind
  rw [← e0] at vkind
  have uid := FM.out.id
  have vid := FN.out.id
  rw [← e1] at vid
  have ucode := FM.out.code
  have vcode := FN.out.code
  rw [← e2] at vcode
  have ukey := FM.out.key
  have vkey := FN.out.key
  rw [← e3] at vkey
  have uto := FM.out.to
  have vto := FN.out.to
  rw [← e4] at vto
  have uval := FM.out.val
  have vval := FN.out.val
  rw [← e5] at vval
  have ulimit := FM.out.limit
  have vlimit := FN.out.limit
  have qq : (m.limit != n.limit) = true := by rw [bne_iff_ne]; exact hd
  clear e0 e1 e2 e3 e4 e5
  have Hd := Lib.hid hd
  clear hd
  go_wp2_with fail
  go_ret
  exact ⟨rfl, Ch.out⟩
set_option maxHeartbeats 16000000 in
set_option maxRecDepth 100000 in
theorem rsame_no7 (m n : M) (L K : Ls) (w : World) (hm : Nm m) (hn : Nm n) (hl : IsL w m L) (hk : IsL w n K) (e0 : m.kind = n.kind) (e1 : m.id = n.id) (e2 : m.code = n.code) (e3 : m.key = n.key) (e4 : m.to = n.to) (e5 : m.val = n.val) (e6 : m.limit = n.limit) (hd : ¬ m.frm = n.frm) :
    Calls Tryz.prog 23 #[.agg (mcells m L), .agg (mcells n K)] w fun e w' => e = .returned (.bool false) ∧ Chg (fun _ => False) w w' := by
  have b0 : Blk ((w.alloc (.cells (mcells m L) 36)).alloc (.cells (mcells n K) 36)) w.heap.size 36 (mcells m L) := (Blk.new w 36 (mcells m L)).alloc _
  have b1 : Blk ((w.alloc (.cells (mcells m L) 36)).alloc (.cells (mcells n K) 36)) (w.heap.size + 1) 36 (mcells n K) := by
    have := Blk.new (w.alloc (.cells (mcells m L) 36)) 36 (mcells n K)
    simpa using this
  have FM := Lib.hid (IsM.mf b0 hm.hd)
  have FN := Lib.hid (IsM.mf b1 hn.hd)
  have ch : Chg (fun _ => False) w ((w.alloc (.cells (mcells m L) 36)).alloc (.cells (mcells n K) 36)) := ((Chg.refl _ w).alloc _).alloc _
  have Ch := Lib.hid ch
  have Hm := Lib.hid hm
  have Hn := Lib.hid hn
  clear ch b0 b1 hl hk hm hn
  go_enter Tryz.func23, Tryz.ntmps23
  go_upto_region 1 with fail
  generalize hWW : ((w.alloc (.cells (mcells m L) 36)).alloc (.cells (mcells n K) 36)) = W at *
  clear hWW
  have ukind := FM.out.kind
  have vkind := FN.out.kind
  rw [← e0] at vkind
  have uid := FM.out.id
  have vid := FN.out.id
  rw [← e1] at vid
  have ucode := FM.out.code
  have vcode := FN.out.code
  rw [← e2] at vcode
  have ukey := FM.out.key
  have vkey := FN.out.key
  rw [← e3] at vkey
  have uto := FM.out.to
  have vto := FN.out.to
  rw [← e4] at vto
  have uval := FM.out.val
  have vval := FN.out.val
  rw [← e5] at vval
  have ulimit := FM.out.limit
  have vlimit := FN.out.limit
  rw [← e6] at vlimit
  have ufrm := FM.out.frm
  have vfrm := FN.out.frm
  have qq : ((m.frm : Int) != (n.frm : Int)) = true := by rw [bne_iff_ne]; intro h; exact hd (by omega)
  clear e0 e1 e2 e3 e4 e5 e6
  have Hd := Lib.hid hd
  clear hd
  go_wp2_with fail
  go_ret
  exact ⟨rfl, Ch.out⟩
set_option maxHeartbeats 16000000 in
set_option maxRecDepth 100000 in
theorem rsame_no8 (m n : M) (L K : Ls) (w : World) (hm : Nm m) (hn : Nm n) (hl : IsL w m L) (hk : IsL w n K) (e0 : m.kind = n.kind) (e1 : m.id = n.id) (e2 : m.code = n.code) (e3 : m.key = n.key) (e4 : m.to = n.to) (e5 : m.val = n.val) (e6 : m.limit = n.limit) (e7 : m.frm = n.frm) (hd : ¬ m.size = n.size) :
    Calls Tryz.prog 23 #[.agg (mcells m L), .agg (mcells n K)] w fun e w' => e = .returned (.bool false) ∧ Chg (fun _ => False) w w' := by
  have b0 : Blk ((w.alloc (.cells (mcells m L) 36)).alloc (.cells (mcells n K) 36)) w.heap.size 36 (mcells m L) := (Blk.new w 36 (mcells m L)).alloc _
  have b1 : Blk ((w.alloc (.cells (mcells m L) 36)).alloc (.cells (mcells n K) 36)) (w.heap.size + 1) 36 (mcells n K) := by
    have := Blk.new (w.alloc (.cells (mcells m L) 36)) 36 (mcells n K)
    simpa using this
  have FM := Lib.hid (IsM.mf b0 hm.hd)
  have FN := Lib.hid (IsM.mf b1 hn.hd)
  have ch : Chg (fun _ => False) w ((w.alloc (.cells (mcells m L) 36)).alloc (.cells (mcells n K) 36)) := ((Chg.refl _ w).alloc _).alloc _
  have Ch := Lib.hid ch
  have Hm := Lib.hid hm
  have Hn := Lib.hid hn
  clear ch b0 b1 hl hk hm hn
  go_enter Tryz.func23, Tryz.ntmps23
  go_upto_region 1 with fail
  generalize hWW : ((w.alloc (.cells (mcells m L) 36)).alloc (.cells (mcells n K) 36)) = W at *
  clear hWW
  have ukind := FM.out.kind
  have vkind := FN.out.kind
  rw [← e0] at vkind
  have uid := FM.out.id
  have vid := FN.out.id
  rw [← e1] at vid
  have ucode := FM.out.code
  have vcode := FN.out.code
  rw [← e2] at vcode
  have ukey := FM.out.key
  have vkey := FN.out.key
  rw [← e3] at vkey
  have uto := FM.out.to
  have vto := FN.out.to
  rw [← e4] at vto
  have uval := FM.out.val
  have vval := FN.out.val
  rw [← e5] at vval
  have ulimit := FM.out.limit
  have vlimit := FN.out.limit
  rw [← e6] at vlimit
  have ufrm := FM.out.frm
  have vfrm := FN.out.frm
  rw [← e7] at vfrm
  have usize := FM.out.size
  have vsize := FN.out.size
  have qq : ((m.size : Int) != (n.size : Int)) = true := by rw [bne_iff_ne]; intro h; exact hd (by omega)
  clear e0 e1 e2 e3 e4 e5 e6 e7
  have Hd := Lib.hid hd
  clear hd
  go_wp2_with fail
  go_ret
  exact ⟨rfl, Ch.out⟩
set_option maxHeartbeats 16000000 in
set_option maxRecDepth 100000 in
theorem rsame_no9 (m n : M) (L K : Ls) (w : World) (hm : Nm m) (hn : Nm n) (hl : IsL w m L) (hk : IsL w n K) (e0 : m.kind = n.kind) (e1 : m.id = n.id) (e2 : m.code = n.code) (e3 : m.key = n.key) (e4 : m.to = n.to) (e5 : m.val = n.val) (e6 : m.limit = n.limit) (e7 : m.frm = n.frm) (e8 : m.size = n.size) (hd : ¬ m.found = n.found) :
    Calls Tryz.prog 23 #[.agg (mcells m L), .agg (mcells n K)] w fun e w' => e = .returned (.bool false) ∧ Chg (fun _ => False) w w' := by
  have b0 : Blk ((w.alloc (.cells (mcells m L) 36)).alloc (.cells (mcells n K) 36)) w.heap.size 36 (mcells m L) := (Blk.new w 36 (mcells m L)).alloc _
  have b1 : Blk ((w.alloc (.cells (mcells m L) 36)).alloc (.cells (mcells n K) 36)) (w.heap.size + 1) 36 (mcells n K) := by
    have := Blk.new (w.alloc (.cells (mcells m L) 36)) 36 (mcells n K)
    simpa using this
  have FM := Lib.hid (IsM.mf b0 hm.hd)
  have FN := Lib.hid (IsM.mf b1 hn.hd)
  have ch : Chg (fun _ => False) w ((w.alloc (.cells (mcells m L) 36)).alloc (.cells (mcells n K) 36)) := ((Chg.refl _ w).alloc _).alloc _
  have Ch := Lib.hid ch
  have Hm := Lib.hid hm
  have Hn := Lib.hid hn
  clear ch b0 b1 hl hk hm hn
  go_enter Tryz.func23, Tryz.ntmps23
  go_upto_region 1 with fail
  generalize hWW : ((w.alloc (.cells (mcells m L) 36)).alloc (.cells (mcells n K) 36)) = W at *
  clear hWW
  have ukind := FM.out.kind
  have vkind := FN.out.kind
  rw [← e0] at vkind
  have uid := FM.out.id
  have vid := FN.out.id
  rw [← e1] at vid
  have ucode := FM.out.code
  have vcode := FN.out.code
  rw [← e2] at vcode
  have ukey := FM.out.key
  have vkey := FN.out.key
  rw [← e3] at vkey
  have uto := FM.out.to
  have vto := FN.out.to
  rw [← e4] at vto
  have uval := FM.out.val
  have vval := FN.out.val
  rw [← e5] at vval
  have ulimit := FM.out.limit
  have vlimit := FN.out.limit
  rw [← e6] at vlimit
  have ufrm := FM.out.frm
  have vfrm := FN.out.frm
  rw [← e7] at vfrm
  have usize := FM.out.size
  have vsize := FN.out.size
  rw [← e8] at vsize
  have ufound := FM.out.found
  have vfound := FN.out.found
  have qq : (m.found != n.found) = true := by rw [bne_iff_ne]; exact hd
  clear e0 e1 e2 e3 e4 e5 e6 e7 e8
  have Hd := Lib.hid hd
  clear hd
  go_wp2_with fail
  go_ret
  exact ⟨rfl, Ch.out⟩
end Go.Proofs.YthkfcfkkamffpaaGreat
