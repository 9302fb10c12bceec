/-
  Layer 27: the document's Same of two messages that differ. Printed by gen_zi.py.
-/
import Derived.Test.YthkfcfkkamffpaaGreatYs
namespace Go.Proofs.YthkfcfkkamffpaaGreat
open Go.RowKit
set_option linter.unusedVariables false
set_option linter.unusedSimpArgs false
open Wm (M)
attribute [local go_sem ↓] ld_dig st_dig ld_head st_head ld_entry st_entry
set_option maxHeartbeats 16000000 in
set_option maxRecDepth 100000 in
theorem rsame_no10 (m n : M) (L K : Ls) (w : World) (hm : Nm m) (hn : Nm n) (hl : IsL w m L) (hk : IsL w n K) (e0 : m.kind = n.kind) (e1 : m.id = n.id) (e2 : m.code = n.code) (e3 : m.key = n.key) (e4 : m.to = n.to) (e5 : m.val = n.val) (e6 : m.limit = n.limit) (e7 : m.frm = n.frm) (e8 : m.size = n.size) (e9 : m.found = n.found) (hd : ¬ m.more = n.more) :
    Calls Tryz.prog 23 #[.agg (mcells m L), .agg (mcells n K)] w fun e w' => e = .returned (.bool false) ∧ Chg (fun _ => False) w w' := by
  have b0 : Blk ((w.alloc (.cells (mcells m L) 36)).alloc (.cells (mcells n K) 36)) w.heap.size 36 (mcells m L) := (Blk.new w 36 (mcells m L)).alloc _
  have b1 : Blk ((w.alloc (.cells (mcells m L) 36)).alloc (.cells (mcells n K) 36)) (w.heap.size + 1) 36 (mcells n K) := by
    have := Blk.new (w.alloc (.cells (mcells m L) 36)) 36 (mcells n K)
    simpa using this
  have FM := Lib.hid (IsM.mf b0 hm.hd)
  have FN := Lib.hid (IsM.mf b1 hn.hd)
  have ch : Chg (fun _ => False) w ((w.alloc (.cells (mcells m L) 36)).alloc (.cells (mcells n K) 36)) := ((Chg.refl _ w).alloc _).alloc _
  have Ch := Lib.hid ch
  have Hm := Lib.hid hm
  have Hn := Lib.hid hn
  clear ch b0 b1 hl hk hm hn
  go_enter Tryz.func23, Tryz.ntmps23
  go_upto_region 1 with fail
  generalize hWW : ((w.alloc (.cells (mcells m L) 36)).alloc (.cells (mcells n K) 36)) = W at *
  clear hWW
  have ukind := FM.out.kind
  have vkind := FN.out.kind
  rw [← e0] at vkind
  have uid := FM.out.id
  have vid := FN.out.id
  rw [← e1] at vid
  have ucode := FM.out.code
  have vcode := FN.out.code
  rw [← e2] at vcode
  have ukey := FM.out.key
  have vkey := FN.out.key
  rw [← e3] at vkey
  have uto := FM.out.to
  have vto := FN.out.to
  rw [← e4] at vto
  have uval := FM.out.val
  have vval := FN.out.val
  rw [← e5] at vval
  have ulimit := FM.out.limit
  have vlimit := FN.out.limit
  rw [← e6] at vlimit
  have ufrm := FM.out.frm
  have vfrm := FN.out.frm
  rw [← e7] at vfrm
  have usize := FM.out.size
  have vsize := FN.out.size
  rw [← e8] at vsize
  have ufound := FM.out.found
  have vfound := FN.out.found
  rw [← e9] at vfound
  have umore := FM.out.more
  have vmore := FN.out.more
  have qq : (m.more != n.more) = true := by rw [bne_iff_ne]; exact hd
  clear e0 e1 e2 e3 e4 e5 e6 e7 e8 e9
  have Hd := Lib.hid hd
  clear hd
  go_wp2_with fail
  go_ret
  exact ⟨rfl, Ch.out⟩
set_option maxHeartbeats 16000000 in
set_option maxRecDepth 100000 in
theorem rsame_no11 (m n : M) (L K : Ls) (w : World) (hm : Nm m) (hn : Nm n) (hl : IsL w m L) (hk : IsL w n K) (e0 : m.kind = n.kind) (e1 : m.id = n.id) (e2 : m.code = n.code) (e3 : m.key = n.key) (e4 : m.to = n.to) (e5 : m.val = n.val) (e6 : m.limit = n.limit) (e7 : m.frm = n.frm) (e8 : m.size = n.size) (e9 : m.found = n.found) (e10 : m.more = n.more) (hd : ¬ (m.hsize = n.hsize ∧ m.hlog = n.hlog)) :
    Calls Tryz.prog 23 #[.agg (mcells m L), .agg (mcells n K)] w fun e w' => e = .returned (.bool false) ∧ Chg (fun _ => False) w w' := by
  have b0 : Blk ((w.alloc (.cells (mcells m L) 36)).alloc (.cells (mcells n K) 36)) w.heap.size 36 (mcells m L) := (Blk.new w 36 (mcells m L)).alloc _
  have b1 : Blk ((w.alloc (.cells (mcells m L) 36)).alloc (.cells (mcells n K) 36)) (w.heap.size + 1) 36 (mcells n K) := by
    have := Blk.new (w.alloc (.cells (mcells m L) 36)) 36 (mcells n K)
    simpa using this
  have FM := Lib.hid (IsM.mf b0 hm.hd)
  have FN := Lib.hid (IsM.mf b1 hn.hd)
  have ch : Chg (fun _ => False) w ((w.alloc (.cells (mcells m L) 36)).alloc (.cells (mcells n K) 36)) := ((Chg.refl _ w).alloc _).alloc _
  have Ch := Lib.hid ch
  have Hm := Lib.hid hm
  have Hn := Lib.hid hn
  clear ch b0 b1 hl hk hm hn
  go_enter Tryz.func23, Tryz.ntmps23
  go_upto_region 1 with fail
  generalize hWW : ((w.alloc (.cells (mcells m L) 36)).alloc (.cells (mcells n K) 36)) = W at *
  clear hWW
  have ukind := FM.out.kind
  have vkind := FN.out.kind
  rw [← e0] at vkind
  have uid := FM.out.id
  have vid := FN.out.id
  rw [← e1] at vid
  have ucode := FM.out.code
  have vcode := FN.out.code
  rw [← e2] at vcode
  have ukey := FM.out.key
  have vkey := FN.out.key
  rw [← e3] at vkey
  have uto := FM.out.to
  have vto := FN.out.to
  rw [← e4] at vto
  have uval := FM.out.val
  have vval := FN.out.val
  rw [← e5] at vval
  have ulimit := FM.out.limit
  have vlimit := FN.out.limit
  rw [← e6] at vlimit
  have ufrm := FM.out.frm
  have vfrm := FN.out.frm
  rw [← e7] at vfrm
  have usize := FM.out.size
  have vsize := FN.out.size
  rw [← e8] at vsize
  have ufound := FM.out.found
  have vfound := FN.out.found
  rw [← e9] at vfound
  have umore := FM.out.more
  have vmore := FN.out.more
  rw [← e10] at vmore
  have uh := ld_hd W w.heap.size m L Hm.out.hd FM.out
  have vh := ld_hd W (w.heap.size + 1) n K Hn.out.hd FN.out
  have qh := fun w => neq_hd m.hsize n.hsize m.hlog n.hlog Hm.out.hd.h Hn.out.hd.h w
  have gh := guard_head
  simp only [decide_eq_false hd, hc, Bool.not_true, Bool.not_false] at qh
  clear e0 e1 e2 e3 e4 e5 e6 e7 e8 e9 e10
  have Hd := Lib.hid hd
  clear hd
  go_wp2_with fail
  go_ret
  exact ⟨rfl, Ch.out⟩
set_option maxHeartbeats 16000000 in
set_option maxRecDepth 100000 in
theorem rsame_no12 (m n : M) (L K : Ls) (w : World) (hm : Nm m) (hn : Nm n) (hl : IsL w m L) (hk : IsL w n K) (e0 : m.kind = n.kind) (e1 : m.id = n.id) (e2 : m.code = n.code) (e3 : m.key = n.key) (e4 : m.to = n.to) (e5 : m.val = n.val) (e6 : m.limit = n.limit) (e7 : m.frm = n.frm) (e8 : m.size = n.size) (e9 : m.found = n.found) (e10 : m.more = n.more) (e11 : (m.hsize = n.hsize ∧ m.hlog = n.hlog)) (hd : ¬ (m.ever = n.ever ∧ m.esum = n.esum ∧ m.ecnt = n.ecnt ∧ m.enote = n.enote)) :
    Calls Tryz.prog 23 #[.agg (mcells m L), .agg (mcells n K)] w fun e w' => e = .returned (.bool false) ∧ Chg (fun _ => False) w w' := by
  have b0 : Blk ((w.alloc (.cells (mcells m L) 36)).alloc (.cells (mcells n K) 36)) w.heap.size 36 (mcells m L) := (Blk.new w 36 (mcells m L)).alloc _
  have b1 : Blk ((w.alloc (.cells (mcells m L) 36)).alloc (.cells (mcells n K) 36)) (w.heap.size + 1) 36 (mcells n K) := by
    have := Blk.new (w.alloc (.cells (mcells m L) 36)) 36 (mcells n K)
    simpa using this
  have FM := Lib.hid (IsM.mf b0 hm.hd)
  have FN := Lib.hid (IsM.mf b1 hn.hd)
  have ch : Chg (fun _ => False) w ((w.alloc (.cells (mcells m L) 36)).alloc (.cells (mcells n K) 36)) := ((Chg.refl _ w).alloc _).alloc _
  have Ch := Lib.hid ch
  have Hm := Lib.hid hm
  have Hn := Lib.hid hn
  clear ch b0 b1 hl hk hm hn
  go_enter Tryz.func23, Tryz.ntmps23
  go_upto_region 1 with fail
  generalize hWW : ((w.alloc (.cells (mcells m L) 36)).alloc (.cells (mcells n K) 36)) = W at *
  clear hWW
  have ukind := FM.out.kind
  have vkind := FN.out.kind
  rw [← e0] at vkind
  have uid := FM.out.id
  have vid := FN.out.id
  rw [← e1] at vid
  have ucode := FM.out.code
  have vcode := FN.out.code
  rw [← e2] at vcode
  have ukey := FM.out.key
  have vkey := FN.out.key
  rw [← e3] at vkey
  have uto := FM.out.to
  have vto := FN.out.to
  rw [← e4] at vto
  have uval := FM.out.val
  have vval := FN.out.val
  rw [← e5] at vval
  have ulimit := FM.out.limit
  have vlimit := FN.out.limit
  rw [← e6] at vlimit
  have ufrm := FM.out.frm
  have vfrm := FN.out.frm
  rw [← e7] at vfrm
  have usize := FM.out.size
  have vsize := FN.out.size
  rw [← e8] at vsize
  have ufound := FM.out.found
  have vfound := FN.out.found
  rw [← e9] at vfound
  have umore := FM.out.more
  have vmore := FN.out.more
  rw [← e10] at vmore
  have uh := ld_hd W w.heap.size m L Hm.out.hd FM.out
  have vh := ld_hd W (w.heap.size + 1) n K Hn.out.hd FN.out
  rw [← e11.1, ← e11.2] at vh
  have qh := fun w => neq_hd m.hsize m.hsize m.hlog m.hlog Hm.out.hd.h Hm.out.hd.h w
  have gh := guard_head
  simp only [decide_eq_true (show m.hsize = m.hsize ∧ m.hlog = m.hlog from ⟨rfl, rfl⟩), hc, Bool.not_true] at qh
  have ue := ld_en W w.heap.size m L Hm.out.hd FM.out
  have ve := ld_en W (w.heap.size + 1) n K Hn.out.hd FN.out
  have qe := fun w => neq_en m.ever n.ever m.esum n.esum m.ecnt n.ecnt m.enote n.enote Hm.out.hd.e Hn.out.hd.e w
  have ge := guard_entry
  simp only [decide_eq_false hd, Bool.not_true, Bool.not_false] at qe
  clear e0 e1 e2 e3 e4 e5 e6 e7 e8 e9 e10 e11
  have Hd := Lib.hid hd
  clear hd
  go_wp2_with fail
  go_ret
  exact ⟨rfl, Ch.out⟩
set_option maxHeartbeats 16000000 in
set_option maxRecDepth 100000 in
theorem rsame_no13 (m n : M) (L K : Ls) (w : World) (hm : Nm m) (hn : Nm n) (hl : IsL w m L) (hk : IsL w n K) (e0 : m.kind = n.kind) (e1 : m.id = n.id) (e2 : m.code = n.code) (e3 : m.key = n.key) (e4 : m.to = n.to) (e5 : m.val = n.val) (e6 : m.limit = n.limit) (e7 : m.frm = n.frm) (e8 : m.size = n.size) (e9 : m.found = n.found) (e10 : m.more = n.more) (e11 : (m.hsize = n.hsize ∧ m.hlog = n.hlog)) (e12 : (m.ever = n.ever ∧ m.esum = n.esum ∧ m.ecnt = n.ecnt ∧ m.enote = n.enote)) (hd : ¬ m.bytes = n.bytes) :
    Calls Tryz.prog 23 #[.agg (mcells m L), .agg (mcells n K)] w fun e w' => e = .returned (.bool false) ∧ Chg (fun _ => False) w w' := by
  have b0 : Blk ((w.alloc (.cells (mcells m L) 36)).alloc (.cells (mcells n K) 36)) w.heap.size 36 (mcells m L) := (Blk.new w 36 (mcells m L)).alloc _
  have b1 : Blk ((w.alloc (.cells (mcells m L) 36)).alloc (.cells (mcells n K) 36)) (w.heap.size + 1) 36 (mcells n K) := by
    have := Blk.new (w.alloc (.cells (mcells m L) 36)) 36 (mcells n K)
    simpa using this
  have FM := Lib.hid (IsM.mf b0 hm.hd)
  have FN := Lib.hid (IsM.mf b1 hn.hd)
  have ch : Chg (fun _ => False) w ((w.alloc (.cells (mcells m L) 36)).alloc (.cells (mcells n K) 36)) := ((Chg.refl _ w).alloc _).alloc _
  have Ch := Lib.hid ch
  have Hm := Lib.hid hm
  have Hn := Lib.hid hn
  clear ch b0 b1 hl hk hm hn
  go_enter Tryz.func23, Tryz.ntmps23
  go_upto_region 1 with fail
  generalize hWW : ((w.alloc (.cells (mcells m L) 36)).alloc (.cells (mcells n K) 36)) = W at *
  clear hWW
  have ukind := FM.out.kind
  have vkind := FN.out.kind
  rw [← e0] at vkind
  have uid := FM.out.id
  have vid := FN.out.id
  rw [← e1] at vid
  have ucode := FM.out.code
  have vcode := FN.out.code
  rw [← e2] at vcode
  have ukey := FM.out.key
  have vkey := FN.out.key
  rw [← e3] at vkey
  have uto := FM.out.to
  have vto := FN.out.to
  rw [← e4] at vto
  have uval := FM.out.val
  have vval := FN.out.val
  rw [← e5] at vval
  have ulimit := FM.out.limit
  have vlimit := FN.out.limit
  rw [← e6] at vlimit
  have ufrm := FM.out.frm
  have vfrm := FN.out.frm
  rw [← e7] at vfrm
  have usize := FM.out.size
  have vsize := FN.out.size
  rw [← e8] at vsize
  have ufound := FM.out.found
  have vfound := FN.out.found
  rw [← e9] at vfound
  have umore := FM.out.more
  have vmore := FN.out.more
  rw [← e10] at vmore
  have uh := ld_hd W w.heap.size m L Hm.out.hd FM.out
  have vh := ld_hd W (w.heap.size + 1) n K Hn.out.hd FN.out
  rw [← e11.1, ← e11.2] at vh
  have qh := fun w => neq_hd m.hsize m.hsize m.hlog m.hlog Hm.out.hd.h Hm.out.hd.h w
  have gh := guard_head
  simp only [decide_eq_true (show m.hsize = m.hsize ∧ m.hlog = m.hlog from ⟨rfl, rfl⟩), hc, Bool.not_true] at qh
  have ue := ld_en W w.heap.size m L Hm.out.hd FM.out
  have ve := ld_en W (w.heap.size + 1) n K Hn.out.hd FN.out
  rw [← e12.1, ← e12.2.1, ← e12.2.2.1, ← e12.2.2.2] at ve
  have qe := fun w => neq_en m.ever m.ever m.esum m.esum m.ecnt m.ecnt m.enote m.enote Hm.out.hd.e Hm.out.hd.e w
  have ge := guard_entry
  simp only [decide_eq_true (show m.ever = m.ever ∧ m.esum = m.esum ∧ m.ecnt = m.ecnt ∧ m.enote = m.enote from ⟨rfl, rfl, rfl, rfl⟩), Bool.not_true] at qe
  have ubytes := FM.out.bytes
  have vbytes := FN.out.bytes
  have qs : ((⟨m.bytes.toArray⟩ : ByteArray).toList == (⟨n.bytes.toArray⟩ : ByteArray).toList) = false := by rw [strB, decide_eq_false hd]
  have qq : ((⟨m.bytes.toArray⟩ : ByteArray).toList != (⟨n.bytes.toArray⟩ : ByteArray).toList) = true := by show (!((⟨m.bytes.toArray⟩ : ByteArray).toList == (⟨n.bytes.toArray⟩ : ByteArray).toList)) = true; rw [qs]; rfl
  have qt : (m.bytes == n.bytes) = false := beq_eq_false_iff_ne.2 hd
  have qu : (m.bytes != n.bytes) = true := bne_iff_ne.2 hd
  have qr : decide ((⟨m.bytes.toArray⟩ : ByteArray) = (⟨n.bytes.toArray⟩ : ByteArray)) = false := decide_eq_false (by intro h; exact hd (by injection h with h; simpa using h))
  clear e0 e1 e2 e3 e4 e5 e6 e7 e8 e9 e10 e11 e12
  have Hd := Lib.hid hd
  clear hd
  go_wp2_with fail
  go_ret
  exact ⟨rfl, Ch.out⟩
end Go.Proofs.YthkfcfkkamffpaaGreat
