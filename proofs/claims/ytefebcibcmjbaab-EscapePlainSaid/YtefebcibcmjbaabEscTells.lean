/- EscapeTells: the walk: package escape and its reference write and read the same, for every signs and every text. -/
import Derived.Test.YtefebcibcmjbaabEsc3
import Derived.Test.YtefebcibcmjbaabEsc6
import Derived.Test.YtefebcibcmjbaabEsc7
namespace Go.Proofs.Ytefebcibcmjbaab
set_option linter.unusedVariables false
open Go.RowKit Go.BigFrame
theorem write_alive (w : World) : Calls Try.prog 20 #[.agg #[.int .u8 124, .int .u8 94, .int .u8 126, .int .u8 92, .int .u8 38], .string ⟨#[97, 124, 98, 92]⟩] w fun x w' => x = .returned (.string ⟨#[97, 92, 70, 92, 98, 92, 69, 92]⟩) ∧ Below w.heap.size w w' := by
  have h := write_any 124 94 126 92 38 ⟨#[97, 124, 98, 92]⟩ w (by decide)
  simp only at h
  rw [show P.escS 124 94 126 92 38 [97, 124, 98, 92] = [97, 92, 70, 92, 98, 92, 69, 92] from by decide +kernel] at h
  exact h
theorem read_alive (w : World) : Calls Try.prog 22 #[.agg #[.int .u8 124, .int .u8 94, .int .u8 126, .int .u8 92, .int .u8 38], .string ⟨#[92, 88, 48, 100, 48, 65, 92, 120]⟩] w fun x w' => x = .returned (.string ⟨#[13, 10, 120]⟩) ∧ Below w.heap.size w w' := by
  have h := read_any 124 94 126 92 38 ⟨#[92, 88, 48, 100, 48, 65, 92, 120]⟩ w (by decide)
  simp only at h
  rw [if_pos (by decide), P.read_some (w := [88, 48, 100, 48, 65]) (u := [120]) (v := [13, 10]) (by decide) (by decide), P.read_plain _ (by decide), P.read_nil] at h
  exact h
set_option maxRecDepth 100000 in
set_option maxHeartbeats 1000000 in
theorem alive7 (w : World) : Calls Try.prog 19 #[] w fun e w' => e = .returned (.bool true) ∧ Below w.heap.size w w' := by
  go_enter Try.func19, Try.ntmps19
  go_wp2_with fail
  refine (default_any _).mono ?_
  rintro x w1 ⟨rfl, hb1⟩
  have B1 := Lib.hid (hb1.alloc hb1.size (.cells #[.int .u8 124, .int .u8 94, .int .u8 126, .int .u8 92, .int .u8 38] 23))
  have k1 := Blk.new w1 23 #[.int .u8 124, .int .u8 94, .int .u8 126, .int .u8 92, .int .u8 38]
  have K1 := Lib.hid k1
  clear hb1 k1
  go_wp2_with fail
  refine (write_alive _).mono ?_
  rintro x w2 ⟨rfl, hb2⟩
  have c2 := fun i => (K1.out.below hb2 K1.out.lt).cell i
  have B2 := Lib.hid (bt'' B1.out hb2)
  clear hb2
  go_wp2_with fail
  refine (read_alive _).mono ?_
  rintro x w3 ⟨rfl, hb3⟩
  have B3 := Lib.hid (bt'' B2.out hb3)
  clear hb3 c2
  go_wp2
  go_ret
  exact ⟨rfl, B3.out⟩
set_option maxRecDepth 100000 in
set_option maxHeartbeats 2000000 in
theorem escapeTells_any (f c r e s : UInt8) (t : ByteArray) (w : World) (ht : t.size ≤ 140737488351232) :
    Calls Try.prog 5 #[.agg #[.int .u8 (f.toNat : Int), .int .u8 (c.toNat : Int), .int .u8 (r.toNat : Int), .int .u8 (e.toNat : Int), .int .u8 (s.toNat : Int)], .string t] w fun x w' => x = .returned (.bool true) ∧ Below w.heap.size w w' := by
  by_cases hz : 9000 < t.size
  · have d1 : decide ((9000 : Int) < (t.size : Int)) = true := decide_eq_true (by omega)
    go_enter Try.func5, Try.ntmps5
    go_wp2_with fail
    refine (alive7 _).mono ?_
    rintro x w1 ⟨rfl, hb1⟩
    have B1 := Lib.hid (box_below hb1)
    clear hb1
    go_wp2
    go_ret
    exact ⟨rfl, B1.out⟩
  · have d1 : decide ((9000 : Int) < (t.size : Int)) = false := decide_eq_false (by omega)
    have wc := fun W => write_any f c r e s t W (by omega)
    have rwc := fun W => refWrite_any f c r e s t W (by omega)
    have rc := fun W => read_any f c r e s t W (by omega)
    have rrc := fun W => refRead_any f c r e s t W (by omega)
    generalize P.escS f c r e s t.data.toList = es at *
    generalize (if P.valid [f, c, r, e, s] = true then (⟨(P.read f c r e s t.data.toList).toArray⟩ : ByteArray) else t) = rs at *
    have WC := Lib.hid wc
    have RWC := Lib.hid rwc
    have RC := Lib.hid rc
    have RRC := Lib.hid rrc
    clear wc rwc rc rrc
    have hcl := fun x => fun i => ext_blk6 (Blk.new w 23 #[.int .u8 (f.toNat : Int), .int .u8 (c.toNat : Int), .int .u8 (r.toNat : Int), .int .u8 (e.toNat : Int), .int .u8 (s.toNat : Int)]) x i
    go_enter Try.func5, Try.ntmps5
    go_wp2_with fail
    refine wp_region_ext (by kernel_rfl) (by kernel_rfl) ?_
    repeat (first | go_big_quiet_step ((first | (go_at_call 19; exact Ext.calls _ (alive7 _)) | (go_at_call 20; exact Ext.calls _ (WC.out _)) | (go_at_call 21; exact Ext.calls _ (RWC.out _)) | (go_at_call 22; exact Ext.calls _ (RC.out _)) | (go_at_call 23; exact Ext.calls _ (RRC.out _)))) | quiet_step ((first | (go_at_call 19; exact Ext.calls _ (alive7 _)) | (go_at_call 20; exact Ext.calls _ (WC.out _)) | (go_at_call 21; exact Ext.calls _ (RWC.out _)) | (go_at_call 22; exact Ext.calls _ (RC.out _)) | (go_at_call 23; exact Ext.calls _ (RRC.out _)))))
    refine wpQuiet_nil ?_
    intro w4 hb4
    have B4 := Lib.hid (box_below hb4)
    clear hb4
    go_wp2
    go_ret
    exact ⟨rfl, B4.out⟩
end Go.Proofs.Ytefebcibcmjbaab
