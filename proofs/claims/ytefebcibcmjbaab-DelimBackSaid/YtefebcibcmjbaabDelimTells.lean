/- DelimTells: the walk: package delim and its reference answer the same of every text and every five bytes. -/
import Derived.Test.YtefebcibcmjbaabDelimAlive
import Derived.Test.YtefebcibcmjbaabDelim7
namespace Go.Proofs.Ytefebcibcmjbaab
set_option linter.unusedVariables false
open Go.RowKit Go.BigFrame
theorem ext_blk {w : World} {g : Nat} {t : TypeId} {cs : Array Value} (h : Blk w g t cs) (x : Ext w) (i : Nat) : x.wd.cell? ⟨g, i, none⟩ = cs[i]? := by
  rw [x.cell (p := ⟨g, i, none⟩) h.lt, h.cell]
set_option maxRecDepth 100000 in
set_option maxHeartbeats 2000000 in
theorem delimTells_any (t : ByteArray) (f c r e s b : UInt8) (w : World) (ht : t.size ≤ maxLen) :
    Calls Try.prog 3 #[.string t, .agg #[.int .u8 (f.toNat : Int), .int .u8 (c.toNat : Int), .int .u8 (r.toNat : Int), .int .u8 (e.toNat : Int), .int .u8 (s.toNat : Int)], .int .u8 (b.toNat : Int)] w fun x w' => x = .returned (.bool true) ∧ Below w.heap.size w w' := by
  have oc := fun W => of_any t W ht
  have rc := fun W => refOf_any t W ht
  generalize P.ofV t.data.toList 0 = v0 at *
  generalize P.ofV t.data.toList 1 = v1 at *
  generalize P.ofV t.data.toList 2 = v2 at *
  generalize P.ofV t.data.toList 3 = v3 at *
  generalize P.ofV t.data.toList 4 = v4 at *
  generalize P.ofE t.data.toList = ee at *
  have he : ∀ W, (binOp .eql 23 (.agg #[.int .u8 (v0.toNat : Int), .int .u8 (v1.toNat : Int), .int .u8 (v2.toNat : Int), .int .u8 (v3.toNat : Int), .int .u8 (v4.toNat : Int)]) (.agg #[.int .u8 (v0.toNat : Int), .int .u8 (v1.toNat : Int), .int .u8 (v2.toNat : Int), .int .u8 (v3.toNat : Int), .int .u8 (v4.toNat : Int)])).run Try.prog W = .ok (.bool true) W := fun W => by
    have h := eql_delims v0 v1 v2 v3 v4 v0 v1 v2 v3 v4 W
    rw [decide_eq_true rfl] at h
    exact h
  have OC := Lib.hid oc
  have RC := Lib.hid rc
  clear oc rc
  go_enter Try.func3, Try.ntmps3
  go_wp2_with fail
  refine (OC.out _).mono ?_
  rintro x w1 ⟨rfl, hb1⟩
  have k1 := (Blk.new w 23 #[.int .u8 (f.toNat : Int), .int .u8 (c.toNat : Int), .int .u8 (r.toNat : Int), .int .u8 (e.toNat : Int), .int .u8 (s.toNat : Int)]).below hb1 (by simp)
  have B1 := Lib.hid (box_below hb1)
  have K1 := Lib.hid (k1.alloc (.cells #[.int .u8 (v0.toNat : Int), .int .u8 (v1.toNat : Int), .int .u8 (v2.toNat : Int), .int .u8 (v3.toNat : Int), .int .u8 (v4.toNat : Int)] 23))
  clear hb1 k1
  go_wp2_with fail
  refine (RC.out _).mono ?_
  rintro x w2 ⟨rfl, hb2⟩
  have k1 := (K1.out.below hb2 K1.out.lt).alloc (.cells #[.int .u8 (v0.toNat : Int), .int .u8 (v1.toNat : Int), .int .u8 (v2.toNat : Int), .int .u8 (v3.toNat : Int), .int .u8 (v4.toNat : Int)] 23)
  have k2 := ((Blk.new w1 23 #[.int .u8 (v0.toNat : Int), .int .u8 (v1.toNat : Int), .int .u8 (v2.toNat : Int), .int .u8 (v3.toNat : Int), .int .u8 (v4.toNat : Int)]).below hb2 (by simp)).alloc (.cells #[.int .u8 (v0.toNat : Int), .int .u8 (v1.toNat : Int), .int .u8 (v2.toNat : Int), .int .u8 (v3.toNat : Int), .int .u8 (v4.toNat : Int)] 23)
  have k3 := Blk.new w2 23 #[.int .u8 (v0.toNat : Int), .int .u8 (v1.toNat : Int), .int .u8 (v2.toNat : Int), .int .u8 (v3.toNat : Int), .int .u8 (v4.toNat : Int)]
  have B2 := Lib.hid (show Below w.heap.size w (w2.alloc (.cells #[.int .u8 (v0.toNat : Int), .int .u8 (v1.toNat : Int), .int .u8 (v2.toNat : Int), .int .u8 (v3.toNat : Int), .int .u8 (v4.toNat : Int)] 23)) from by
    have h := bt (B1.out.alloc B1.out.size _) hb2
    exact h.alloc h.size _)
  have c1 := fun x => fun i => ext_blk k1 x i
  have c2 := fun x => fun i => ext_blk k2 x i
  have c3 := fun x => fun i => ext_blk k3 x i
  clear hb2 k1 k2 k3
  go_wp2_with fail
  refine wp_region_ext (by kernel_rfl) (by kernel_rfl) ?_
  repeat (first | go_big_quiet_step ((first | (go_at_call 12; exact Ext.calls _ (alive6 _)) | (go_at_call 13; exact Ext.calls _ (valid_any f c r e s _)) | (go_at_call 14; exact Ext.calls _ (refValid_any f c r e s _)) | (go_at_call 15; exact Ext.calls _ (head_any f c r e s _)) | (go_at_call 16; exact Ext.calls _ (refHead_any f c r e s _)) | (go_at_call 17; exact Ext.calls _ (is_any f c r e s b _)) | (go_at_call 18; exact Ext.calls _ (refIs_any f c r e s b _)))) | quiet_step ((first | (go_at_call 12; exact Ext.calls _ (alive6 _)) | (go_at_call 13; exact Ext.calls _ (valid_any f c r e s _)) | (go_at_call 14; exact Ext.calls _ (refValid_any f c r e s _)) | (go_at_call 15; exact Ext.calls _ (head_any f c r e s _)) | (go_at_call 16; exact Ext.calls _ (refHead_any f c r e s _)) | (go_at_call 17; exact Ext.calls _ (is_any f c r e s b _)) | (go_at_call 18; exact Ext.calls _ (refIs_any f c r e s b _)))))
  refine wpQuiet_nil ?_
  intro w4 hb4
  go_wp2
  go_ret
  exact ⟨rfl, bt B2.out hb4⟩
end Go.Proofs.Ytefebcibcmjbaab
