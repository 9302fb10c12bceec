/-
  Layer 27: a message as cells; its four lists in memory.
-/
import Derived.Test.YthkfcfkkamffpaaGreatWf
import Derived.Test.YthkfcfkkamffpaaGreatAgg
import Derived.Test.YthkfcfkkamffpaaGreatWm
namespace Go.Proofs.YthkfcfkkamffpaaGreat
open Go.RowKit
set_option linter.unusedVariables false
set_option linter.unusedSimpArgs false
open Wm (M Fd)

/-- the slices of a message's lists -/
structure Ls where
  t : Value
  s : Value
  p : Value
  y : Value
def nolist : Ls := ⟨.slice none 0 0, .slice none 0 0, .slice none 0 0, .slice none 0 0⟩
def tailC (m : M) (L : Ls) : List Value := [.int .u64 m.ecnt, S m.enote, L.t, L.s, L.p, L.y, S m.bytes]
def mc (m : M) (L : Ls) : List Value :=
  .int .u8 m.kind :: .int .u32 m.id :: .int .i64 m.code :: S m.key :: S m.to :: S m.val :: .int .i64 m.limit :: .int .u64 m.frm :: .int .u64 m.size :: .bool m.found :: .bool m.more :: .int .u64 m.hsize ::
    (bys m.hlog ++ (.int .u64 m.ever :: (bys m.esum ++ tailC m L)))
def mcells (m : M) (L : Ls) : Array Value := (mc m L).toArray
/-- the digests are whole -/
structure Dg (m : M) : Prop where
  h : m.hlog.length = 32
  e : m.esum.length = 32
theorem mc_at (m : M) (L : Ls) (hd : Dg m) : (mc m L)[44]? = some (.int .u64 m.ever) ∧ (∀ j v, (tailC m L)[j]? = some v → (mc m L)[77 + j]? = some v) ∧
    (∀ j v, (bys m.hlog)[j]? = some v → (mc m L)[12 + j]? = some v) ∧ (∀ j v, (bys m.esum)[j]? = some v → (mc m L)[45 + j]? = some v) := by
  have hh : (bys m.hlog).length = 32 := by rw [bys_length]; exact hd.h
  have he : (bys m.esum).length = 32 := by rw [bys_length]; exact hd.e
  have shift : ∀ j, (mc m L)[12 + j]? = (bys m.hlog ++ (.int .u64 m.ever :: (bys m.esum ++ tailC m L)))[j]? := fun j => by
    rw [show 12 + j = j + 12 by omega]; rfl
  refine ⟨?_, fun j v hv => ?_, fun j v hv => ?_, fun j v hv => ?_⟩
  · have := shift 32
    rw [show 12 + 32 = 44 from rfl] at this
    rw [this, List.getElem?_append_right (by omega), hh]; rfl
  · have := shift (65 + j)
    rw [show 12 + (65 + j) = 77 + j by omega] at this
    rw [this, List.getElem?_append_right (by omega), hh, show 65 + j - 32 = (32 + j) + 1 by omega, List.getElem?_cons_succ, List.getElem?_append_right (by omega), he, show 32 + j - 32 = j by omega]
    exact hv
  · rw [shift, List.getElem?_append_left (List.getElem?_eq_some_iff.1 hv).1]; exact hv
  · have := shift (33 + j)
    rw [show 12 + (33 + j) = 45 + j by omega] at this
    rw [this, List.getElem?_append_right (by omega), hh, show 33 + j - 32 = j + 1 by omega, List.getElem?_cons_succ, List.getElem?_append_left (List.getElem?_eq_some_iff.1 hv).1]
    exact hv
theorem mc_len (m : M) (L : Ls) (hd : Dg m) : (mcells m L).size = 84 := by
  have hh : (bys m.hlog).length = 32 := by rw [bys_length]; exact hd.h
  have he : (bys m.esum).length = 32 := by rw [bys_length]; exact hd.e
  simp [mcells, mc, tailC, hh, he]
/-- block g is the message m, its lists' slices L -/
def IsM (w : World) (g : Nat) (m : M) (L : Ls) : Prop := Blk w g 36 (mcells m L)
/-- a message's cells -/
structure MF (w : World) (g : Nat) (m : M) (L : Ls) : Prop where
  kind : w.cell? ⟨g, 0, none⟩ = some (.int .u8 m.kind)
  id : w.cell? ⟨g, 1, none⟩ = some (.int .u32 m.id)
  code : w.cell? ⟨g, 2, none⟩ = some (.int .i64 m.code)
  key : w.cell? ⟨g, 3, none⟩ = some (S m.key)
  to : w.cell? ⟨g, 4, none⟩ = some (S m.to)
  val : w.cell? ⟨g, 5, none⟩ = some (S m.val)
  limit : w.cell? ⟨g, 6, none⟩ = some (.int .i64 m.limit)
  frm : w.cell? ⟨g, 7, none⟩ = some (.int .u64 m.frm)
  size : w.cell? ⟨g, 8, none⟩ = some (.int .u64 m.size)
  found : w.cell? ⟨g, 9, none⟩ = some (.bool m.found)
  more : w.cell? ⟨g, 10, none⟩ = some (.bool m.more)
  hsize : w.cell? ⟨g, 11, none⟩ = some (.int .u64 m.hsize)
  hlog : ∀ j v, (bys m.hlog)[j]? = some v → w.cell? ⟨g, 12 + j, none⟩ = some v
  ever : w.cell? ⟨g, 44, none⟩ = some (.int .u64 m.ever)
  esum : ∀ j v, (bys m.esum)[j]? = some v → w.cell? ⟨g, 45 + j, none⟩ = some v
  ecnt : w.cell? ⟨g, 77, none⟩ = some (.int .u64 m.ecnt)
  enote : w.cell? ⟨g, 78, none⟩ = some (S m.enote)
  t : w.cell? ⟨g, 79, none⟩ = some L.t
  s : w.cell? ⟨g, 80, none⟩ = some L.s
  p : w.cell? ⟨g, 81, none⟩ = some L.p
  y : w.cell? ⟨g, 82, none⟩ = some L.y
  bytes : w.cell? ⟨g, 83, none⟩ = some (S m.bytes)
theorem IsM.mf {w : World} {g : Nat} {m : M} {L : Ls} (h : IsM w g m L) (hd : Dg m) : MF w g m L := by
  have hc : ∀ i v, (mc m L)[i]? = some v → w.cell? ⟨g, i, none⟩ = some v := fun i v hv => by
    have h1 := Blk.cell h i
    rw [h1]
    simpa [mcells] using hv
  obtain ⟨a1, a2, a3, a4⟩ := mc_at m L hd
  exact ⟨hc 0 _ rfl, hc 1 _ rfl, hc 2 _ rfl, hc 3 _ rfl, hc 4 _ rfl, hc 5 _ rfl, hc 6 _ rfl, hc 7 _ rfl, hc 8 _ rfl, hc 9 _ rfl, hc 10 _ rfl, hc 11 _ rfl,
    fun j v hv => hc _ _ (a3 j v hv), hc 44 _ a1, fun j v hv => hc _ _ (a4 j v hv), hc 77 _ (a2 0 _ rfl), hc 78 _ (a2 1 _ rfl), hc 79 _ (a2 2 _ rfl), hc 80 _ (a2 3 _ rfl), hc 81 _ (a2 4 _ rfl), hc 82 _ (a2 5 _ rfl), hc 83 _ (a2 6 _ rfl)⟩
theorem IsM.chg {S : Nat → Prop} {w w' : World} {g : Nat} {m : M} {L : Ls} (h : IsM w g m L) (hc : Chg S w w') (hn : ¬ S g) : IsM w' g m L := Blk.chg h hc hn
theorem IsM.lt {w : World} {g : Nat} {m : M} {L : Ls} (h : IsM w g m L) : g < w.heap.size := Blk.lt h
theorem IsM.alloc {w : World} {g : Nat} {m : M} {L : Ls} (h : IsM w g m L) (o : Obj) : IsM (w.alloc o) g m L := Blk.alloc h o
theorem IsM.drew {w : World} {g : Nat} {m : M} {L : Ls} (h : IsM w g m L) : IsM w.drew g m L := h
theorem setA (m : M) (L : Ls) (l : List Value) (i : Nat) (u : Value) (h : (mc m L).set i u = l) : (mcells m L).setIfInBounds i u = l.toArray := by
  unfold mcells
  rw [List.setIfInBounds_toArray, h]
section
variable (m : M) (L : Ls)
theorem set_kind (x : Nat) : (mcells m L).setIfInBounds 0 (.int .u8 x) = mcells { m with kind := x } L := setA m L _ 0 _ rfl
theorem set_id (x : Nat) : (mcells m L).setIfInBounds 1 (.int .u32 x) = mcells { m with id := x } L := setA m L _ 1 _ rfl
theorem set_code (x : Int) : (mcells m L).setIfInBounds 2 (.int .i64 x) = mcells { m with code := x } L := setA m L _ 2 _ rfl
theorem set_key (x : List UInt8) : (mcells m L).setIfInBounds 3 (S x) = mcells { m with key := x } L := setA m L _ 3 _ rfl
theorem set_to (x : List UInt8) : (mcells m L).setIfInBounds 4 (S x) = mcells { m with to := x } L := setA m L _ 4 _ rfl
theorem set_val (x : List UInt8) : (mcells m L).setIfInBounds 5 (S x) = mcells { m with val := x } L := setA m L _ 5 _ rfl
theorem set_limit (x : Int) : (mcells m L).setIfInBounds 6 (.int .i64 x) = mcells { m with limit := x } L := setA m L _ 6 _ rfl
theorem set_frm (x : Nat) : (mcells m L).setIfInBounds 7 (.int .u64 x) = mcells { m with frm := x } L := setA m L _ 7 _ rfl
theorem set_size (x : Nat) : (mcells m L).setIfInBounds 8 (.int .u64 x) = mcells { m with size := x } L := setA m L _ 8 _ rfl
theorem set_found (x : Bool) : (mcells m L).setIfInBounds 9 (.bool x) = mcells { m with found := x } L := setA m L _ 9 _ rfl
theorem set_more (x : Bool) : (mcells m L).setIfInBounds 10 (.bool x) = mcells { m with more := x } L := setA m L _ 10 _ rfl
theorem set_hsize (x : Nat) : (mcells m L).setIfInBounds 11 (.int .u64 x) = mcells { m with hsize := x } L := setA m L _ 11 _ rfl
theorem mc_tail (hd : Dg m) (i : Nat) (u : Value) : (mc m L).set (77 + i) u =
    .int .u8 m.kind :: .int .u32 m.id :: .int .i64 m.code :: S m.key :: S m.to :: S m.val :: .int .i64 m.limit :: .int .u64 m.frm :: .int .u64 m.size :: .bool m.found :: .bool m.more :: .int .u64 m.hsize ::
    (bys m.hlog ++ (.int .u64 m.ever :: (bys m.esum ++ (tailC m L).set i u))) := by
  have hh : (bys m.hlog).length = 32 := by rw [bys_length]; exact hd.h
  have he : (bys m.esum).length = 32 := by rw [bys_length]; exact hd.e
  rw [show 77 + i = (65 + i) + 12 by omega]
  show _ :: _ :: _ :: _ :: _ :: _ :: _ :: _ :: _ :: _ :: _ :: _ :: (bys m.hlog ++ (.int .u64 m.ever :: (bys m.esum ++ tailC m L))).set (65 + i) u = _
  rw [List.set_append_right _ _ (by omega), hh, show 65 + i - 32 = (32 + i) + 1 by omega, List.set_cons_succ, List.set_append_right _ _ (by omega), he, show 32 + i - 32 = i by omega]
theorem set_t (hd : Dg m) (u : Value) : (mcells m L).setIfInBounds 79 u = mcells m { L with t := u } := setA m L _ 79 _ (mc_tail m L hd 2 u)
theorem set_s (hd : Dg m) (u : Value) : (mcells m L).setIfInBounds 80 u = mcells m { L with s := u } := setA m L _ 80 _ (mc_tail m L hd 3 u)
theorem set_p (hd : Dg m) (u : Value) : (mcells m L).setIfInBounds 81 u = mcells m { L with p := u } := setA m L _ 81 _ (mc_tail m L hd 4 u)
theorem set_y (hd : Dg m) (u : Value) : (mcells m L).setIfInBounds 82 u = mcells m { L with y := u } := setA m L _ 82 _ (mc_tail m L hd 5 u)
theorem set_bytes (hd : Dg m) (x : List UInt8) : (mcells m L).setIfInBounds 83 (S x) = mcells { m with bytes := x } L := setA m L _ 83 _ (mc_tail m L hd 6 (S x))
theorem set_ecnt (hd : Dg m) (x : Nat) : (mcells m L).setIfInBounds 77 (.int .u64 x) = mcells { m with ecnt := x } L := setA m L _ 77 _ (mc_tail m L hd 0 (.int .u64 x))
theorem set_enote (hd : Dg m) (x : List UInt8) : (mcells m L).setIfInBounds 78 (S x) = mcells { m with enote := x } L := setA m L _ 78 _ (mc_tail m L hd 1 (S x))
theorem set_ever (hd : Dg m) (x : Nat) : (mcells m L).setIfInBounds 44 (.int .u64 x) = mcells { m with ever := x } L := by
  refine setA m L _ 44 _ ?_
  have hh : (bys m.hlog).length = 32 := by rw [bys_length]; exact hd.h
  show _ :: _ :: _ :: _ :: _ :: _ :: _ :: _ :: _ :: _ :: _ :: _ :: (bys m.hlog ++ (.int .u64 m.ever :: (bys m.esum ++ tailC m L))).set 32 _ = _
  rw [List.set_append_right _ _ (by omega), hh]
  rfl
/-- cells put over a row's midst -/
def over (cur : Array Value) (off : Nat) (cs : List Value) : Array Value := (cur.toList.take off ++ cs ++ cur.toList.drop (off + cs.length)).toArray
theorem over_hlog (hd : Dg m) (x : List UInt8) (hx : x.length = 32) : over (mcells m L) 12 (bys x) = mcells { m with hlog := x } L := by
  have hh : (bys m.hlog).length = 32 := by rw [bys_length]; exact hd.h
  have hxx : (bys x).length = 32 := by rw [bys_length]; exact hx
  unfold over mcells
  rw [hxx]
  have e1 : (mc m L).take 12 = [.int .u8 m.kind, .int .u32 m.id, .int .i64 m.code, S m.key, S m.to, S m.val, .int .i64 m.limit, .int .u64 m.frm, .int .u64 m.size, .bool m.found, .bool m.more, .int .u64 m.hsize] := rfl
  have e2 : (mc m L).drop (12 + 32) = .int .u64 m.ever :: (bys m.esum ++ tailC m L) := by
    rw [show 12 + 32 = 32 + 12 from rfl]
    show (bys m.hlog ++ (.int .u64 m.ever :: (bys m.esum ++ tailC m L))).drop 32 = _
    rw [List.drop_append_of_le_length (by omega), List.drop_of_length_le (by omega)]
    rfl
  simp only [List.toList_toArray, e1, e2]
  rfl
theorem over_esum (hd : Dg m) (x : List UInt8) (hx : x.length = 32) : over (mcells m L) 45 (bys x) = mcells { m with esum := x } L := by
  have hh : (bys m.hlog).length = 32 := by rw [bys_length]; exact hd.h
  have he : (bys m.esum).length = 32 := by rw [bys_length]; exact hd.e
  have hxx : (bys x).length = 32 := by rw [bys_length]; exact hx
  unfold over mcells
  rw [hxx]
  have e1 : (mc m L).take 45 = .int .u8 m.kind :: .int .u32 m.id :: .int .i64 m.code :: S m.key :: S m.to :: S m.val :: .int .i64 m.limit :: .int .u64 m.frm :: .int .u64 m.size :: .bool m.found :: .bool m.more :: .int .u64 m.hsize :: (bys m.hlog ++ [.int .u64 m.ever]) := by
    show _ :: _ :: _ :: _ :: _ :: _ :: _ :: _ :: _ :: _ :: _ :: _ :: (bys m.hlog ++ (.int .u64 m.ever :: (bys m.esum ++ tailC m L))).take 33 = _
    rw [List.take_append, hh, List.take_of_length_le (by omega)]
    rfl
  have e2 : (mc m L).drop (45 + 32) = tailC m L := by
    rw [show 45 + 32 = 65 + 12 from rfl]
    show (bys m.hlog ++ (.int .u64 m.ever :: (bys m.esum ++ tailC m L))).drop 65 = _
    rw [List.drop_append, List.drop_of_length_le (by omega), hh, List.nil_append, show 65 - 32 = 32 + 1 from rfl, List.drop_succ_cons, List.drop_append, List.drop_of_length_le (by omega), he]
    rfl
  simp only [List.toList_toArray, e1, e2]
  simp [mc]
  rfl
end
end Go.Proofs.YthkfcfkkamffpaaGreat
