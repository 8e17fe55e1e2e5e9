/- The first call of chapter 6's statements: it is alive. No conditions. -/
import Derived.Test.YtefebcibcmjbaabDelim6
namespace Go.Proofs.Ytefebcibcmjbaab
set_option linter.unusedVariables false
open Go.RowKit Go.BigFrame
theorem bt {w a b : World} (h : Below w.heap.size w a) (k : Below a.heap.size a b) : Below w.heap.size w b := h.trans (k.mono h.size)
theorem of_alive (w : World) : Calls Try.prog 10 #[.string ⟨#[77, 83, 72, 124, 94, 126, 92, 38, 124, 65]⟩] w fun x w' => x = .returned (.tuple #[.agg #[.int .u8 124, .int .u8 94, .int .u8 126, .int .u8 92, .int .u8 38], .int .i64 0]) ∧ Below w.heap.size w w' := by
  have h := of_any ⟨#[77, 83, 72, 124, 94, 126, 92, 38, 124, 65]⟩ w (by decide)
  simp only at h
  rw [show P.ofV [77, 83, 72, 124, 94, 126, 92, 38, 124, 65] 0 = 124 from by decide +kernel, show P.ofV [77, 83, 72, 124, 94, 126, 92, 38, 124, 65] 1 = 94 from by decide +kernel, show P.ofV [77, 83, 72, 124, 94, 126, 92, 38, 124, 65] 2 = 126 from by decide +kernel, show P.ofV [77, 83, 72, 124, 94, 126, 92, 38, 124, 65] 3 = 92 from by decide +kernel, show P.ofV [77, 83, 72, 124, 94, 126, 92, 38, 124, 65] 4 = 38 from by decide +kernel, show P.ofE [77, 83, 72, 124, 94, 126, 92, 38, 124, 65] = 0 from by decide +kernel] at h
  exact h
theorem head_alive (w : World) : Calls Try.prog 15 #[.agg #[.int .u8 124, .int .u8 94, .int .u8 126, .int .u8 92, .int .u8 38]] w fun x w' => x = .returned (.string ⟨#[77, 83, 72, 124, 94, 126, 92, 38]⟩) ∧ Below w.heap.size w w' := by
  have h := head_any 124 94 126 92 38 w
  rw [show P.headS [124, 94, 126, 92, 38] = [77, 83, 72, 124, 94, 126, 92, 38] from by decide +kernel] at h
  exact h
theorem is_alive1 (w : World) : Calls Try.prog 17 #[.agg #[.int .u8 124, .int .u8 94, .int .u8 126, .int .u8 92, .int .u8 38], .int .u8 126] w fun x w' => x = .returned (.bool true) ∧ Below w.heap.size w w' := by
  have h := is_any 124 94 126 92 38 126 w
  rw [show P.isSign [124, 94, 126, 92, 38] 126 = true from by decide +kernel] at h
  exact h
theorem is_alive2 (w : World) : Calls Try.prog 17 #[.agg #[.int .u8 124, .int .u8 94, .int .u8 126, .int .u8 92, .int .u8 38], .int .u8 65] w fun x w' => x = .returned (.bool false) ∧ Below w.heap.size w w' := by
  have h := is_any 124 94 126 92 38 65 w
  rw [show P.isSign [124, 94, 126, 92, 38] 65 = false from by decide +kernel] at h
  exact h
theorem ext_new {w : World} {cs : Array Value} {t : TypeId} (x : Ext (w.alloc (.cells cs t))) (i : Nat) : x.wd.cell? ⟨w.heap.size, i, none⟩ = cs[i]? := by
  rw [x.cell (by simp), (Blk.new w _ _).cell]
set_option maxRecDepth 100000 in
set_option maxHeartbeats 1000000 in
theorem alive6 (w : World) : Calls Try.prog 12 #[] w fun e w' => e = .returned (.bool true) ∧ Below w.heap.size w w' := by
  have he : ∀ W, (binOp .eql 23 (.agg #[.int .u8 124, .int .u8 94, .int .u8 126, .int .u8 92, .int .u8 38]) (.agg #[.int .u8 124, .int .u8 94, .int .u8 126, .int .u8 92, .int .u8 38])).run Try.prog W = .ok (.bool true) W := fun W => eql_delims 124 94 126 92 38 124 94 126 92 38 W
  go_enter Try.func12, Try.ntmps12
  go_wp2_with (go_at_call 10; refine (of_alive _).mono ?_; rintro x w1 ⟨rfl, hb1⟩)
  have hcl := fun x : Ext (w1.alloc (.cells #[.int .u8 124, .int .u8 94, .int .u8 126, .int .u8 92, .int .u8 38] 23)) => fun i => ext_new x i
  refine wp_region_ext (by kernel_rfl) (by kernel_rfl) ?_
  repeat (first | go_big_quiet_step ((first | (go_at_call 24; exact Ext.calls _ (default_any _)) | (go_at_call 15; exact Ext.calls _ (head_alive _)) | (go_at_call 17; with_reducible exact Ext.calls _ (is_alive1 _)) | (go_at_call 17; exact Ext.calls _ (is_alive2 _)))) | quiet_step ((first | (go_at_call 24; exact Ext.calls _ (default_any _)) | (go_at_call 15; exact Ext.calls _ (head_alive _)) | (go_at_call 17; with_reducible exact Ext.calls _ (is_alive1 _)) | (go_at_call 17; exact Ext.calls _ (is_alive2 _)))))
  refine wpQuiet_nil ?_
  intro w4 hb4
  go_wp2
  go_ret
  exact ⟨rfl, bt (hb1.alloc hb1.size _) hb4⟩
end Go.Proofs.Ytefebcibcmjbaab
