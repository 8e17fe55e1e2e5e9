/- What the book's functions do on lists that are empty (printed by a program). -/
import Derived.Test.YtemjipongehjlaaGreatL14
namespace Go.Proofs.YtemjipongehjlaaGreat
set_option linter.unusedVariables false
open Go.RowKit Go.BigFrame
set_option maxRecDepth 100000 in
theorem stillInts_any (gb : Nat) (tx tw lg lw : Value) (w : World) (hb : Blk w gb 51 (bookCells tx tw lg lw)) :
    Calls Tryz.prog 51 #[.pointer (some ⟨gb, 0, none⟩)] w fun e w' => e = .returned (.bool true) ∧ w = w' := by
  have c0 : w.cell? ⟨gb, 2, none⟩ = some (.slice none 0 0) := (hb.cell 2).trans rfl
  clear hb
  go_enter Tryz.func51, Tryz.ntmps51
  go_wp2_with fail
  go_loop [3] (fun x => x = .int .i64 0) (fun _ => 0)
  case atStart => exact rfl
  case round =>
    subst hrel
    go_wp2
    go_ret
    exact ⟨rfl, rfl⟩
set_option maxRecDepth 100000 in
theorem putInts_any (gb : Nat) (tx tw lg lw : Value) (w : World) (hb : Blk w gb 51 (bookCells tx tw lg lw)) :
    Calls Tryz.prog 76 #[.pointer (some ⟨gb, 0, none⟩)] w fun e w' => e = .returned (.tuple #[]) ∧ w = w' := by
  have c0 : w.cell? ⟨gb, 2, none⟩ = some (.slice none 0 0) := (hb.cell 2).trans rfl
  clear hb
  go_enter Tryz.func76, Tryz.ntmps76
  go_wp2_with fail
  go_loop [2] (fun x => x = .int .i64 0) (fun _ => 0)
  case atStart => exact rfl
  case round =>
    subst hrel
    go_wp2
    go_end0
    exact ⟨rfl, rfl⟩
set_option maxRecDepth 100000 in
theorem growInts_any (gb : Nat) (tx tw lg lw : Value) (w : World) (hb : Blk w gb 51 (bookCells tx tw lg lw)) :
    Calls Tryz.prog 85 #[.pointer (some ⟨gb, 0, none⟩)] w fun e w' => e = .returned (.slice none 0 0) ∧ w = w' := by
  have c0 : w.cell? ⟨gb, 2, none⟩ = some (.slice none 0 0) := (hb.cell 2).trans rfl
  clear hb
  go_enter Tryz.func85, Tryz.ntmps85
  go_wp2_with fail
  go_loop [3, 4] (fun y x => x = .int .i64 0 ∧ y = .slice none 0 0) (fun _ _ => 0)
  case atStart => exact ⟨rfl, rfl⟩
  case round =>
    obtain ⟨rfl, rfl⟩ := hrel
    go_wp2
    go_ret
    exact ⟨rfl, rfl⟩
set_option maxRecDepth 100000 in
theorem markedInts_any (w : World) :
    Calls Tryz.prog 102 #[.slice none 0 0] w fun e w' => e = .returned (.bool true) ∧ w = w' := by
  go_enter Tryz.func102, Tryz.ntmps102
  go_wp2_with fail
  go_loop [3] (fun x => x = .int .i64 0) (fun _ => 0)
  case atStart => exact rfl
  case round =>
    subst hrel
    go_wp2
    go_ret
    exact ⟨rfl, rfl⟩
set_option maxRecDepth 100000 in
theorem stillPairs_any (gb : Nat) (tx tw lg lw : Value) (w : World) (hb : Blk w gb 51 (bookCells tx tw lg lw)) :
    Calls Tryz.prog 52 #[.pointer (some ⟨gb, 0, none⟩)] w fun e w' => e = .returned (.bool true) ∧ w = w' := by
  have c0 : w.cell? ⟨gb, 4, none⟩ = some (.slice none 0 0) := (hb.cell 4).trans rfl
  clear hb
  go_enter Tryz.func52, Tryz.ntmps52
  go_wp2_with fail
  go_loop [3] (fun x => x = .int .i64 0) (fun _ => 0)
  case atStart => exact rfl
  case round =>
    subst hrel
    go_wp2
    go_ret
    exact ⟨rfl, rfl⟩
set_option maxRecDepth 100000 in
theorem putPairs_any (gb : Nat) (tx tw lg lw : Value) (w : World) (hb : Blk w gb 51 (bookCells tx tw lg lw)) :
    Calls Tryz.prog 77 #[.pointer (some ⟨gb, 0, none⟩)] w fun e w' => e = .returned (.tuple #[]) ∧ w = w' := by
  have c0 : w.cell? ⟨gb, 4, none⟩ = some (.slice none 0 0) := (hb.cell 4).trans rfl
  clear hb
  go_enter Tryz.func77, Tryz.ntmps77
  go_wp2_with fail
  go_loop [2] (fun x => x = .int .i64 0) (fun _ => 0)
  case atStart => exact rfl
  case round =>
    subst hrel
    go_wp2
    go_end0
    exact ⟨rfl, rfl⟩
set_option maxRecDepth 100000 in
theorem growPairs_any (gb : Nat) (tx tw lg lw : Value) (w : World) (hb : Blk w gb 51 (bookCells tx tw lg lw)) :
    Calls Tryz.prog 86 #[.pointer (some ⟨gb, 0, none⟩)] w fun e w' => e = .returned (.slice none 0 0) ∧ w = w' := by
  have c0 : w.cell? ⟨gb, 4, none⟩ = some (.slice none 0 0) := (hb.cell 4).trans rfl
  clear hb
  go_enter Tryz.func86, Tryz.ntmps86
  go_wp2_with fail
  go_loop [3, 4] (fun y x => x = .int .i64 0 ∧ y = .slice none 0 0) (fun _ _ => 0)
  case atStart => exact ⟨rfl, rfl⟩
  case round =>
    obtain ⟨rfl, rfl⟩ := hrel
    go_wp2
    go_ret
    exact ⟨rfl, rfl⟩
set_option maxRecDepth 100000 in
theorem markedPairs_any (w : World) :
    Calls Tryz.prog 103 #[.slice none 0 0] w fun e w' => e = .returned (.bool true) ∧ w = w' := by
  go_enter Tryz.func103, Tryz.ntmps103
  go_wp2_with fail
  go_loop [3] (fun x => x = .int .i64 0) (fun _ => 0)
  case atStart => exact rfl
  case round =>
    subst hrel
    go_wp2
    go_ret
    exact ⟨rfl, rfl⟩
set_option maxRecDepth 100000 in
theorem stillWords_any (gb : Nat) (tx tw lg lw : Value) (w : World) (hb : Blk w gb 51 (bookCells tx tw lg lw)) :
    Calls Tryz.prog 53 #[.pointer (some ⟨gb, 0, none⟩)] w fun e w' => e = .returned (.bool true) ∧ w = w' := by
  have c0 : w.cell? ⟨gb, 6, none⟩ = some (.slice none 0 0) := (hb.cell 6).trans rfl
  clear hb
  go_enter Tryz.func53, Tryz.ntmps53
  go_wp2_with fail
  go_loop [3] (fun x => x = .int .i64 0) (fun _ => 0)
  case atStart => exact rfl
  case round =>
    subst hrel
    go_wp2
    go_ret
    exact ⟨rfl, rfl⟩
set_option maxRecDepth 100000 in
theorem putWords_any (gb : Nat) (tx tw lg lw : Value) (w : World) (hb : Blk w gb 51 (bookCells tx tw lg lw)) :
    Calls Tryz.prog 78 #[.pointer (some ⟨gb, 0, none⟩)] w fun e w' => e = .returned (.tuple #[]) ∧ w = w' := by
  have c0 : w.cell? ⟨gb, 6, none⟩ = some (.slice none 0 0) := (hb.cell 6).trans rfl
  clear hb
  go_enter Tryz.func78, Tryz.ntmps78
  go_wp2_with fail
  go_loop [2] (fun x => x = .int .i64 0) (fun _ => 0)
  case atStart => exact rfl
  case round =>
    subst hrel
    go_wp2
    go_end0
    exact ⟨rfl, rfl⟩
set_option maxRecDepth 100000 in
theorem growWords_any (gb : Nat) (tx tw lg lw : Value) (w : World) (hb : Blk w gb 51 (bookCells tx tw lg lw)) :
    Calls Tryz.prog 87 #[.pointer (some ⟨gb, 0, none⟩)] w fun e w' => e = .returned (.slice none 0 0) ∧ w = w' := by
  have c0 : w.cell? ⟨gb, 6, none⟩ = some (.slice none 0 0) := (hb.cell 6).trans rfl
  clear hb
  go_enter Tryz.func87, Tryz.ntmps87
  go_wp2_with fail
  go_loop [3, 4] (fun y x => x = .int .i64 0 ∧ y = .slice none 0 0) (fun _ _ => 0)
  case atStart => exact ⟨rfl, rfl⟩
  case round =>
    obtain ⟨rfl, rfl⟩ := hrel
    go_wp2
    go_ret
    exact ⟨rfl, rfl⟩
set_option maxRecDepth 100000 in
theorem markedWords_any (w : World) :
    Calls Tryz.prog 104 #[.slice none 0 0] w fun e w' => e = .returned (.bool true) ∧ w = w' := by
  go_enter Tryz.func104, Tryz.ntmps104
  go_wp2_with fail
  go_loop [3] (fun x => x = .int .i64 0) (fun _ => 0)
  case atStart => exact rfl
  case round =>
    subst hrel
    go_wp2
    go_ret
    exact ⟨rfl, rfl⟩
set_option maxRecDepth 100000 in
theorem stillNodes_any (gb : Nat) (tx tw lg lw : Value) (w : World) (hb : Blk w gb 51 (bookCells tx tw lg lw)) :
    Calls Tryz.prog 54 #[.pointer (some ⟨gb, 0, none⟩)] w fun e w' => e = .returned (.bool true) ∧ w = w' := by
  have c0 : w.cell? ⟨gb, 8, none⟩ = some (.slice none 0 0) := (hb.cell 8).trans rfl
  clear hb
  go_enter Tryz.func54, Tryz.ntmps54
  go_wp2_with fail
  go_loop [3] (fun x => x = .int .i64 0) (fun _ => 0)
  case atStart => exact rfl
  case round =>
    subst hrel
    go_wp2
    go_ret
    exact ⟨rfl, rfl⟩
set_option maxRecDepth 100000 in
theorem putNodes_any (gb : Nat) (tx tw lg lw : Value) (w : World) (hb : Blk w gb 51 (bookCells tx tw lg lw)) :
    Calls Tryz.prog 79 #[.pointer (some ⟨gb, 0, none⟩)] w fun e w' => e = .returned (.tuple #[]) ∧ w = w' := by
  have c0 : w.cell? ⟨gb, 8, none⟩ = some (.slice none 0 0) := (hb.cell 8).trans rfl
  clear hb
  go_enter Tryz.func79, Tryz.ntmps79
  go_wp2_with fail
  go_loop [2] (fun x => x = .int .i64 0) (fun _ => 0)
  case atStart => exact rfl
  case round =>
    subst hrel
    go_wp2
    go_end0
    exact ⟨rfl, rfl⟩
set_option maxRecDepth 100000 in
theorem growNodes_any (gb : Nat) (tx tw lg lw : Value) (w : World) (hb : Blk w gb 51 (bookCells tx tw lg lw)) :
    Calls Tryz.prog 88 #[.pointer (some ⟨gb, 0, none⟩)] w fun e w' => e = .returned (.slice none 0 0) ∧ w = w' := by
  have c0 : w.cell? ⟨gb, 8, none⟩ = some (.slice none 0 0) := (hb.cell 8).trans rfl
  clear hb
  go_enter Tryz.func88, Tryz.ntmps88
  go_wp2_with fail
  go_loop [3, 4] (fun y x => x = .int .i64 0 ∧ y = .slice none 0 0) (fun _ _ => 0)
  case atStart => exact ⟨rfl, rfl⟩
  case round =>
    obtain ⟨rfl, rfl⟩ := hrel
    go_wp2
    go_ret
    exact ⟨rfl, rfl⟩
set_option maxRecDepth 100000 in
theorem markedNodes_any (w : World) :
    Calls Tryz.prog 105 #[.slice none 0 0] w fun e w' => e = .returned (.bool true) ∧ w = w' := by
  go_enter Tryz.func105, Tryz.ntmps105
  go_wp2_with fail
  go_loop [3] (fun x => x = .int .i64 0) (fun _ => 0)
  case atStart => exact rfl
  case round =>
    subst hrel
    go_wp2
    go_ret
    exact ⟨rfl, rfl⟩
set_option maxRecDepth 100000 in
theorem stillTrees_any (gb : Nat) (tx tw lg lw : Value) (w : World) (hb : Blk w gb 51 (bookCells tx tw lg lw)) :
    Calls Tryz.prog 55 #[.pointer (some ⟨gb, 0, none⟩)] w fun e w' => e = .returned (.bool true) ∧ w = w' := by
  have c0 : w.cell? ⟨gb, 10, none⟩ = some (.slice none 0 0) := (hb.cell 10).trans rfl
  clear hb
  go_enter Tryz.func55, Tryz.ntmps55
  go_wp2_with fail
  go_loop [3] (fun x => x = .int .i64 0) (fun _ => 0)
  case atStart => exact rfl
  case round =>
    subst hrel
    go_wp2
    go_ret
    exact ⟨rfl, rfl⟩
set_option maxRecDepth 100000 in
theorem putTrees_any (gb : Nat) (tx tw lg lw : Value) (w : World) (hb : Blk w gb 51 (bookCells tx tw lg lw)) :
    Calls Tryz.prog 74 #[.pointer (some ⟨gb, 0, none⟩)] w fun e w' => e = .returned (.tuple #[]) ∧ w = w' := by
  have c0 : w.cell? ⟨gb, 10, none⟩ = some (.slice none 0 0) := (hb.cell 10).trans rfl
  clear hb
  go_enter Tryz.func74, Tryz.ntmps74
  go_wp2_with fail
  go_loop [2] (fun x => x = .int .i64 0) (fun _ => 0)
  case atStart => exact rfl
  case round =>
    subst hrel
    go_wp2
    go_end0
    exact ⟨rfl, rfl⟩
set_option maxRecDepth 100000 in
theorem growTrees_any (gb : Nat) (tx tw lg lw : Value) (w : World) (hb : Blk w gb 51 (bookCells tx tw lg lw)) :
    Calls Tryz.prog 89 #[.pointer (some ⟨gb, 0, none⟩)] w fun e w' => e = .returned (.slice none 0 0) ∧ w = w' := by
  have c0 : w.cell? ⟨gb, 10, none⟩ = some (.slice none 0 0) := (hb.cell 10).trans rfl
  clear hb
  go_enter Tryz.func89, Tryz.ntmps89
  go_wp2_with fail
  go_loop [3, 4] (fun y x => x = .int .i64 0 ∧ y = .slice none 0 0) (fun _ _ => 0)
  case atStart => exact ⟨rfl, rfl⟩
  case round =>
    obtain ⟨rfl, rfl⟩ := hrel
    go_wp2
    go_ret
    exact ⟨rfl, rfl⟩
set_option maxRecDepth 100000 in
theorem markedTrees_any (w : World) :
    Calls Tryz.prog 106 #[.slice none 0 0] w fun e w' => e = .returned (.bool true) ∧ w = w' := by
  go_enter Tryz.func106, Tryz.ntmps106
  go_wp2_with fail
  go_loop [3] (fun x => x = .int .i64 0) (fun _ => 0)
  case atStart => exact rfl
  case round =>
    subst hrel
    go_wp2
    go_ret
    exact ⟨rfl, rfl⟩
set_option maxRecDepth 100000 in
theorem stillComps_any (gb : Nat) (tx tw lg lw : Value) (w : World) (hb : Blk w gb 51 (bookCells tx tw lg lw)) :
    Calls Tryz.prog 56 #[.pointer (some ⟨gb, 0, none⟩)] w fun e w' => e = .returned (.bool true) ∧ w = w' := by
  have c0 : w.cell? ⟨gb, 12, none⟩ = some (.slice none 0 0) := (hb.cell 12).trans rfl
  clear hb
  go_enter Tryz.func56, Tryz.ntmps56
  go_wp2_with fail
  go_loop [3] (fun x => x = .int .i64 0) (fun _ => 0)
  case atStart => exact rfl
  case round =>
    subst hrel
    go_wp2
    go_ret
    exact ⟨rfl, rfl⟩
set_option maxRecDepth 100000 in
theorem putComps_any (gb : Nat) (tx tw lg lw : Value) (w : World) (hb : Blk w gb 51 (bookCells tx tw lg lw)) :
    Calls Tryz.prog 73 #[.pointer (some ⟨gb, 0, none⟩)] w fun e w' => e = .returned (.tuple #[]) ∧ w = w' := by
  have c0 : w.cell? ⟨gb, 12, none⟩ = some (.slice none 0 0) := (hb.cell 12).trans rfl
  clear hb
  go_enter Tryz.func73, Tryz.ntmps73
  go_wp2_with fail
  go_loop [2] (fun x => x = .int .i64 0) (fun _ => 0)
  case atStart => exact rfl
  case round =>
    subst hrel
    go_wp2
    go_end0
    exact ⟨rfl, rfl⟩
set_option maxRecDepth 100000 in
theorem growComps_any (gb : Nat) (tx tw lg lw : Value) (w : World) (hb : Blk w gb 51 (bookCells tx tw lg lw)) :
    Calls Tryz.prog 90 #[.pointer (some ⟨gb, 0, none⟩)] w fun e w' => e = .returned (.slice none 0 0) ∧ w = w' := by
  have c0 : w.cell? ⟨gb, 12, none⟩ = some (.slice none 0 0) := (hb.cell 12).trans rfl
  clear hb
  go_enter Tryz.func90, Tryz.ntmps90
  go_wp2_with fail
  go_loop [3, 4] (fun y x => x = .int .i64 0 ∧ y = .slice none 0 0) (fun _ _ => 0)
  case atStart => exact ⟨rfl, rfl⟩
  case round =>
    obtain ⟨rfl, rfl⟩ := hrel
    go_wp2
    go_ret
    exact ⟨rfl, rfl⟩
set_option maxRecDepth 100000 in
theorem markedComps_any (w : World) :
    Calls Tryz.prog 107 #[.slice none 0 0] w fun e w' => e = .returned (.bool true) ∧ w = w' := by
  go_enter Tryz.func107, Tryz.ntmps107
  go_wp2_with fail
  go_loop [3] (fun x => x = .int .i64 0) (fun _ => 0)
  case atStart => exact rfl
  case round =>
    subst hrel
    go_wp2
    go_ret
    exact ⟨rfl, rfl⟩
set_option maxRecDepth 100000 in
theorem stillReps_any (gb : Nat) (tx tw lg lw : Value) (w : World) (hb : Blk w gb 51 (bookCells tx tw lg lw)) :
    Calls Tryz.prog 57 #[.pointer (some ⟨gb, 0, none⟩)] w fun e w' => e = .returned (.bool true) ∧ w = w' := by
  have c0 : w.cell? ⟨gb, 14, none⟩ = some (.slice none 0 0) := (hb.cell 14).trans rfl
  clear hb
  go_enter Tryz.func57, Tryz.ntmps57
  go_wp2_with fail
  go_loop [3] (fun x => x = .int .i64 0) (fun _ => 0)
  case atStart => exact rfl
  case round =>
    subst hrel
    go_wp2
    go_ret
    exact ⟨rfl, rfl⟩
set_option maxRecDepth 100000 in
theorem putReps_any (gb : Nat) (tx tw lg lw : Value) (w : World) (hb : Blk w gb 51 (bookCells tx tw lg lw)) :
    Calls Tryz.prog 72 #[.pointer (some ⟨gb, 0, none⟩)] w fun e w' => e = .returned (.tuple #[]) ∧ w = w' := by
  have c0 : w.cell? ⟨gb, 14, none⟩ = some (.slice none 0 0) := (hb.cell 14).trans rfl
  clear hb
  go_enter Tryz.func72, Tryz.ntmps72
  go_wp2_with fail
  go_loop [2] (fun x => x = .int .i64 0) (fun _ => 0)
  case atStart => exact rfl
  case round =>
    subst hrel
    go_wp2
    go_end0
    exact ⟨rfl, rfl⟩
set_option maxRecDepth 100000 in
theorem growReps_any (gb : Nat) (tx tw lg lw : Value) (w : World) (hb : Blk w gb 51 (bookCells tx tw lg lw)) :
    Calls Tryz.prog 91 #[.pointer (some ⟨gb, 0, none⟩)] w fun e w' => e = .returned (.slice none 0 0) ∧ w = w' := by
  have c0 : w.cell? ⟨gb, 14, none⟩ = some (.slice none 0 0) := (hb.cell 14).trans rfl
  clear hb
  go_enter Tryz.func91, Tryz.ntmps91
  go_wp2_with fail
  go_loop [3, 4] (fun y x => x = .int .i64 0 ∧ y = .slice none 0 0) (fun _ _ => 0)
  case atStart => exact ⟨rfl, rfl⟩
  case round =>
    obtain ⟨rfl, rfl⟩ := hrel
    go_wp2
    go_ret
    exact ⟨rfl, rfl⟩
set_option maxRecDepth 100000 in
theorem markedReps_any (w : World) :
    Calls Tryz.prog 108 #[.slice none 0 0] w fun e w' => e = .returned (.bool true) ∧ w = w' := by
  go_enter Tryz.func108, Tryz.ntmps108
  go_wp2_with fail
  go_loop [3] (fun x => x = .int .i64 0) (fun _ => 0)
  case atStart => exact rfl
  case round =>
    subst hrel
    go_wp2
    go_ret
    exact ⟨rfl, rfl⟩
set_option maxRecDepth 100000 in
theorem stillFields_any (gb : Nat) (tx tw lg lw : Value) (w : World) (hb : Blk w gb 51 (bookCells tx tw lg lw)) :
    Calls Tryz.prog 58 #[.pointer (some ⟨gb, 0, none⟩)] w fun e w' => e = .returned (.bool true) ∧ w = w' := by
  have c0 : w.cell? ⟨gb, 16, none⟩ = some (.slice none 0 0) := (hb.cell 16).trans rfl
  clear hb
  go_enter Tryz.func58, Tryz.ntmps58
  go_wp2_with fail
  go_loop [3] (fun x => x = .int .i64 0) (fun _ => 0)
  case atStart => exact rfl
  case round =>
    subst hrel
    go_wp2
    go_ret
    exact ⟨rfl, rfl⟩
set_option maxRecDepth 100000 in
theorem putFields_any (gb : Nat) (tx tw lg lw : Value) (w : World) (hb : Blk w gb 51 (bookCells tx tw lg lw)) :
    Calls Tryz.prog 71 #[.pointer (some ⟨gb, 0, none⟩)] w fun e w' => e = .returned (.tuple #[]) ∧ w = w' := by
  have c0 : w.cell? ⟨gb, 16, none⟩ = some (.slice none 0 0) := (hb.cell 16).trans rfl
  clear hb
  go_enter Tryz.func71, Tryz.ntmps71
  go_wp2_with fail
  go_loop [2] (fun x => x = .int .i64 0) (fun _ => 0)
  case atStart => exact rfl
  case round =>
    subst hrel
    go_wp2
    go_end0
    exact ⟨rfl, rfl⟩
set_option maxRecDepth 100000 in
theorem growFields_any (gb : Nat) (tx tw lg lw : Value) (w : World) (hb : Blk w gb 51 (bookCells tx tw lg lw)) :
    Calls Tryz.prog 92 #[.pointer (some ⟨gb, 0, none⟩)] w fun e w' => e = .returned (.slice none 0 0) ∧ w = w' := by
  have c0 : w.cell? ⟨gb, 16, none⟩ = some (.slice none 0 0) := (hb.cell 16).trans rfl
  clear hb
  go_enter Tryz.func92, Tryz.ntmps92
  go_wp2_with fail
  go_loop [3, 4] (fun y x => x = .int .i64 0 ∧ y = .slice none 0 0) (fun _ _ => 0)
  case atStart => exact ⟨rfl, rfl⟩
  case round =>
    obtain ⟨rfl, rfl⟩ := hrel
    go_wp2
    go_ret
    exact ⟨rfl, rfl⟩
set_option maxRecDepth 100000 in
theorem markedFields_any (w : World) :
    Calls Tryz.prog 109 #[.slice none 0 0] w fun e w' => e = .returned (.bool true) ∧ w = w' := by
  go_enter Tryz.func109, Tryz.ntmps109
  go_wp2_with fail
  go_loop [3] (fun x => x = .int .i64 0) (fun _ => 0)
  case atStart => exact rfl
  case round =>
    subst hrel
    go_wp2
    go_ret
    exact ⟨rfl, rfl⟩
set_option maxRecDepth 100000 in
theorem stillSegments_any (gb : Nat) (tx tw lg lw : Value) (w : World) (hb : Blk w gb 51 (bookCells tx tw lg lw)) :
    Calls Tryz.prog 59 #[.pointer (some ⟨gb, 0, none⟩)] w fun e w' => e = .returned (.bool true) ∧ w = w' := by
  have c0 : w.cell? ⟨gb, 18, none⟩ = some (.slice none 0 0) := (hb.cell 18).trans rfl
  clear hb
  go_enter Tryz.func59, Tryz.ntmps59
  go_wp2_with fail
  go_loop [3] (fun x => x = .int .i64 0) (fun _ => 0)
  case atStart => exact rfl
  case round =>
    subst hrel
    go_wp2
    go_ret
    exact ⟨rfl, rfl⟩
set_option maxRecDepth 100000 in
theorem putSegments_any (gb : Nat) (tx tw lg lw : Value) (w : World) (hb : Blk w gb 51 (bookCells tx tw lg lw)) :
    Calls Tryz.prog 70 #[.pointer (some ⟨gb, 0, none⟩)] w fun e w' => e = .returned (.tuple #[]) ∧ w = w' := by
  have c0 : w.cell? ⟨gb, 18, none⟩ = some (.slice none 0 0) := (hb.cell 18).trans rfl
  clear hb
  go_enter Tryz.func70, Tryz.ntmps70
  go_wp2_with fail
  go_loop [2] (fun x => x = .int .i64 0) (fun _ => 0)
  case atStart => exact rfl
  case round =>
    subst hrel
    go_wp2
    go_end0
    exact ⟨rfl, rfl⟩
set_option maxRecDepth 100000 in
theorem growSegments_any (gb : Nat) (tx tw lg lw : Value) (w : World) (hb : Blk w gb 51 (bookCells tx tw lg lw)) :
    Calls Tryz.prog 93 #[.pointer (some ⟨gb, 0, none⟩)] w fun e w' => e = .returned (.slice none 0 0) ∧ w = w' := by
  have c0 : w.cell? ⟨gb, 18, none⟩ = some (.slice none 0 0) := (hb.cell 18).trans rfl
  clear hb
  go_enter Tryz.func93, Tryz.ntmps93
  go_wp2_with fail
  go_loop [3, 4] (fun y x => x = .int .i64 0 ∧ y = .slice none 0 0) (fun _ _ => 0)
  case atStart => exact ⟨rfl, rfl⟩
  case round =>
    obtain ⟨rfl, rfl⟩ := hrel
    go_wp2
    go_ret
    exact ⟨rfl, rfl⟩
set_option maxRecDepth 100000 in
theorem markedSegments_any (w : World) :
    Calls Tryz.prog 110 #[.slice none 0 0] w fun e w' => e = .returned (.bool true) ∧ w = w' := by
  go_enter Tryz.func110, Tryz.ntmps110
  go_wp2_with fail
  go_loop [3] (fun x => x = .int .i64 0) (fun _ => 0)
  case atStart => exact rfl
  case round =>
    subst hrel
    go_wp2
    go_ret
    exact ⟨rfl, rfl⟩
set_option maxRecDepth 100000 in
theorem stillEvents_any (gb : Nat) (tx tw lg lw : Value) (w : World) (hb : Blk w gb 51 (bookCells tx tw lg lw)) :
    Calls Tryz.prog 61 #[.pointer (some ⟨gb, 0, none⟩)] w fun e w' => e = .returned (.bool true) ∧ w = w' := by
  have c0 : w.cell? ⟨gb, 22, none⟩ = some (.slice none 0 0) := (hb.cell 22).trans rfl
  clear hb
  go_enter Tryz.func61, Tryz.ntmps61
  go_wp2_with fail
  go_loop [3] (fun x => x = .int .i64 0) (fun _ => 0)
  case atStart => exact rfl
  case round =>
    subst hrel
    go_wp2
    go_ret
    exact ⟨rfl, rfl⟩
set_option maxRecDepth 100000 in
theorem putEvents_any (gb : Nat) (tx tw lg lw : Value) (w : World) (hb : Blk w gb 51 (bookCells tx tw lg lw)) :
    Calls Tryz.prog 81 #[.pointer (some ⟨gb, 0, none⟩)] w fun e w' => e = .returned (.tuple #[]) ∧ w = w' := by
  have c0 : w.cell? ⟨gb, 22, none⟩ = some (.slice none 0 0) := (hb.cell 22).trans rfl
  clear hb
  go_enter Tryz.func81, Tryz.ntmps81
  go_wp2_with fail
  go_loop [2] (fun x => x = .int .i64 0) (fun _ => 0)
  case atStart => exact rfl
  case round =>
    subst hrel
    go_wp2
    go_end0
    exact ⟨rfl, rfl⟩
set_option maxRecDepth 100000 in
theorem growEvents_any (gb : Nat) (tx tw lg lw : Value) (w : World) (hb : Blk w gb 51 (bookCells tx tw lg lw)) :
    Calls Tryz.prog 95 #[.pointer (some ⟨gb, 0, none⟩)] w fun e w' => e = .returned (.slice none 0 0) ∧ w = w' := by
  have c0 : w.cell? ⟨gb, 22, none⟩ = some (.slice none 0 0) := (hb.cell 22).trans rfl
  clear hb
  go_enter Tryz.func95, Tryz.ntmps95
  go_wp2_with fail
  go_loop [3, 4] (fun y x => x = .int .i64 0 ∧ y = .slice none 0 0) (fun _ _ => 0)
  case atStart => exact ⟨rfl, rfl⟩
  case round =>
    obtain ⟨rfl, rfl⟩ := hrel
    go_wp2
    go_ret
    exact ⟨rfl, rfl⟩
set_option maxRecDepth 100000 in
theorem markedEvents_any (w : World) :
    Calls Tryz.prog 112 #[.slice none 0 0] w fun e w' => e = .returned (.bool true) ∧ w = w' := by
  go_enter Tryz.func112, Tryz.ntmps112
  go_wp2_with fail
  go_loop [3] (fun x => x = .int .i64 0) (fun _ => 0)
  case atStart => exact rfl
  case round =>
    subst hrel
    go_wp2
    go_ret
    exact ⟨rfl, rfl⟩
set_option maxRecDepth 100000 in
theorem stillTasks_any (gb : Nat) (tx tw lg lw : Value) (w : World) (hb : Blk w gb 51 (bookCells tx tw lg lw)) :
    Calls Tryz.prog 62 #[.pointer (some ⟨gb, 0, none⟩)] w fun e w' => e = .returned (.bool true) ∧ w = w' := by
  have c0 : w.cell? ⟨gb, 24, none⟩ = some (.slice none 0 0) := (hb.cell 24).trans rfl
  clear hb
  go_enter Tryz.func62, Tryz.ntmps62
  go_wp2_with fail
  go_loop [3] (fun x => x = .int .i64 0) (fun _ => 0)
  case atStart => exact rfl
  case round =>
    subst hrel
    go_wp2
    go_ret
    exact ⟨rfl, rfl⟩
set_option maxRecDepth 100000 in
theorem putTasks_any (gb : Nat) (tx tw lg lw : Value) (w : World) (hb : Blk w gb 51 (bookCells tx tw lg lw)) :
    Calls Tryz.prog 82 #[.pointer (some ⟨gb, 0, none⟩)] w fun e w' => e = .returned (.tuple #[]) ∧ w = w' := by
  have c0 : w.cell? ⟨gb, 24, none⟩ = some (.slice none 0 0) := (hb.cell 24).trans rfl
  clear hb
  go_enter Tryz.func82, Tryz.ntmps82
  go_wp2_with fail
  go_loop [2] (fun x => x = .int .i64 0) (fun _ => 0)
  case atStart => exact rfl
  case round =>
    subst hrel
    go_wp2
    go_end0
    exact ⟨rfl, rfl⟩
set_option maxRecDepth 100000 in
theorem growTasks_any (gb : Nat) (tx tw lg lw : Value) (w : World) (hb : Blk w gb 51 (bookCells tx tw lg lw)) :
    Calls Tryz.prog 96 #[.pointer (some ⟨gb, 0, none⟩)] w fun e w' => e = .returned (.slice none 0 0) ∧ w = w' := by
  have c0 : w.cell? ⟨gb, 24, none⟩ = some (.slice none 0 0) := (hb.cell 24).trans rfl
  clear hb
  go_enter Tryz.func96, Tryz.ntmps96
  go_wp2_with fail
  go_loop [3, 4] (fun y x => x = .int .i64 0 ∧ y = .slice none 0 0) (fun _ _ => 0)
  case atStart => exact ⟨rfl, rfl⟩
  case round =>
    obtain ⟨rfl, rfl⟩ := hrel
    go_wp2
    go_ret
    exact ⟨rfl, rfl⟩
set_option maxRecDepth 100000 in
theorem markedTasks_any (w : World) :
    Calls Tryz.prog 113 #[.slice none 0 0] w fun e w' => e = .returned (.bool true) ∧ w = w' := by
  go_enter Tryz.func113, Tryz.ntmps113
  go_wp2_with fail
  go_loop [3] (fun x => x = .int .i64 0) (fun _ => 0)
  case atStart => exact rfl
  case round =>
    subst hrel
    go_wp2
    go_ret
    exact ⟨rfl, rfl⟩
set_option maxRecDepth 100000 in
theorem stillSteps_any (gb : Nat) (tx tw lg lw : Value) (w : World) (hb : Blk w gb 51 (bookCells tx tw lg lw)) :
    Calls Tryz.prog 63 #[.pointer (some ⟨gb, 0, none⟩)] w fun e w' => e = .returned (.bool true) ∧ w = w' := by
  have c0 : w.cell? ⟨gb, 26, none⟩ = some (.slice none 0 0) := (hb.cell 26).trans rfl
  clear hb
  go_enter Tryz.func63, Tryz.ntmps63
  go_wp2_with fail
  go_loop [3] (fun x => x = .int .i64 0) (fun _ => 0)
  case atStart => exact rfl
  case round =>
    subst hrel
    go_wp2
    go_ret
    exact ⟨rfl, rfl⟩
set_option maxRecDepth 100000 in
theorem putSteps_any (gb : Nat) (tx tw lg lw : Value) (w : World) (hb : Blk w gb 51 (bookCells tx tw lg lw)) :
    Calls Tryz.prog 69 #[.pointer (some ⟨gb, 0, none⟩)] w fun e w' => e = .returned (.tuple #[]) ∧ w = w' := by
  have c0 : w.cell? ⟨gb, 26, none⟩ = some (.slice none 0 0) := (hb.cell 26).trans rfl
  clear hb
  go_enter Tryz.func69, Tryz.ntmps69
  go_wp2_with fail
  go_loop [2] (fun x => x = .int .i64 0) (fun _ => 0)
  case atStart => exact rfl
  case round =>
    subst hrel
    go_wp2
    go_end0
    exact ⟨rfl, rfl⟩
set_option maxRecDepth 100000 in
theorem growSteps_any (gb : Nat) (tx tw lg lw : Value) (w : World) (hb : Blk w gb 51 (bookCells tx tw lg lw)) :
    Calls Tryz.prog 97 #[.pointer (some ⟨gb, 0, none⟩)] w fun e w' => e = .returned (.slice none 0 0) ∧ w = w' := by
  have c0 : w.cell? ⟨gb, 26, none⟩ = some (.slice none 0 0) := (hb.cell 26).trans rfl
  clear hb
  go_enter Tryz.func97, Tryz.ntmps97
  go_wp2_with fail
  go_loop [3, 4] (fun y x => x = .int .i64 0 ∧ y = .slice none 0 0) (fun _ _ => 0)
  case atStart => exact ⟨rfl, rfl⟩
  case round =>
    obtain ⟨rfl, rfl⟩ := hrel
    go_wp2
    go_ret
    exact ⟨rfl, rfl⟩
set_option maxRecDepth 100000 in
theorem markedSteps_any (w : World) :
    Calls Tryz.prog 114 #[.slice none 0 0] w fun e w' => e = .returned (.bool true) ∧ w = w' := by
  go_enter Tryz.func114, Tryz.ntmps114
  go_wp2_with fail
  go_loop [3] (fun x => x = .int .i64 0) (fun _ => 0)
  case atStart => exact rfl
  case round =>
    subst hrel
    go_wp2
    go_ret
    exact ⟨rfl, rfl⟩
set_option maxRecDepth 100000 in
theorem stillChannels_any (gb : Nat) (tx tw lg lw : Value) (w : World) (hb : Blk w gb 51 (bookCells tx tw lg lw)) :
    Calls Tryz.prog 64 #[.pointer (some ⟨gb, 0, none⟩)] w fun e w' => e = .returned (.bool true) ∧ w = w' := by
  have c0 : w.cell? ⟨gb, 28, none⟩ = some (.slice none 0 0) := (hb.cell 28).trans rfl
  clear hb
  go_enter Tryz.func64, Tryz.ntmps64
  go_wp2_with fail
  go_loop [3] (fun x => x = .int .i64 0) (fun _ => 0)
  case atStart => exact rfl
  case round =>
    subst hrel
    go_wp2
    go_ret
    exact ⟨rfl, rfl⟩
set_option maxRecDepth 100000 in
theorem putChannels_any (gb : Nat) (tx tw lg lw : Value) (w : World) (hb : Blk w gb 51 (bookCells tx tw lg lw)) :
    Calls Tryz.prog 67 #[.pointer (some ⟨gb, 0, none⟩)] w fun e w' => e = .returned (.tuple #[]) ∧ w = w' := by
  have c0 : w.cell? ⟨gb, 28, none⟩ = some (.slice none 0 0) := (hb.cell 28).trans rfl
  clear hb
  go_enter Tryz.func67, Tryz.ntmps67
  go_wp2_with fail
  go_loop [2] (fun x => x = .int .i64 0) (fun _ => 0)
  case atStart => exact rfl
  case round =>
    subst hrel
    go_wp2
    go_end0
    exact ⟨rfl, rfl⟩
set_option maxRecDepth 100000 in
theorem growChannels_any (gb : Nat) (tx tw lg lw : Value) (w : World) (hb : Blk w gb 51 (bookCells tx tw lg lw)) :
    Calls Tryz.prog 98 #[.pointer (some ⟨gb, 0, none⟩)] w fun e w' => e = .returned (.slice none 0 0) ∧ w = w' := by
  have c0 : w.cell? ⟨gb, 28, none⟩ = some (.slice none 0 0) := (hb.cell 28).trans rfl
  clear hb
  go_enter Tryz.func98, Tryz.ntmps98
  go_wp2_with fail
  go_loop [3, 4] (fun y x => x = .int .i64 0 ∧ y = .slice none 0 0) (fun _ _ => 0)
  case atStart => exact ⟨rfl, rfl⟩
  case round =>
    obtain ⟨rfl, rfl⟩ := hrel
    go_wp2
    go_ret
    exact ⟨rfl, rfl⟩
set_option maxRecDepth 100000 in
theorem markedChannels_any (w : World) :
    Calls Tryz.prog 115 #[.slice none 0 0] w fun e w' => e = .returned (.bool true) ∧ w = w' := by
  go_enter Tryz.func115, Tryz.ntmps115
  go_wp2_with fail
  go_loop [3] (fun x => x = .int .i64 0) (fun _ => 0)
  case atStart => exact rfl
  case round =>
    subst hrel
    go_wp2
    go_ret
    exact ⟨rfl, rfl⟩
set_option maxRecDepth 100000 in
theorem stillDests_any (gb : Nat) (tx tw lg lw : Value) (w : World) (hb : Blk w gb 51 (bookCells tx tw lg lw)) :
    Calls Tryz.prog 65 #[.pointer (some ⟨gb, 0, none⟩)] w fun e w' => e = .returned (.bool true) ∧ w = w' := by
  have c0 : w.cell? ⟨gb, 30, none⟩ = some (.slice none 0 0) := (hb.cell 30).trans rfl
  clear hb
  go_enter Tryz.func65, Tryz.ntmps65
  go_wp2_with fail
  go_loop [3] (fun x => x = .int .i64 0) (fun _ => 0)
  case atStart => exact rfl
  case round =>
    subst hrel
    go_wp2
    go_ret
    exact ⟨rfl, rfl⟩
set_option maxRecDepth 100000 in
theorem putDests_any (gb : Nat) (tx tw lg lw : Value) (w : World) (hb : Blk w gb 51 (bookCells tx tw lg lw)) :
    Calls Tryz.prog 83 #[.pointer (some ⟨gb, 0, none⟩)] w fun e w' => e = .returned (.tuple #[]) ∧ w = w' := by
  have c0 : w.cell? ⟨gb, 30, none⟩ = some (.slice none 0 0) := (hb.cell 30).trans rfl
  clear hb
  go_enter Tryz.func83, Tryz.ntmps83
  go_wp2_with fail
  go_loop [2] (fun x => x = .int .i64 0) (fun _ => 0)
  case atStart => exact rfl
  case round =>
    subst hrel
    go_wp2
    go_end0
    exact ⟨rfl, rfl⟩
set_option maxRecDepth 100000 in
theorem growDests_any (gb : Nat) (tx tw lg lw : Value) (w : World) (hb : Blk w gb 51 (bookCells tx tw lg lw)) :
    Calls Tryz.prog 99 #[.pointer (some ⟨gb, 0, none⟩)] w fun e w' => e = .returned (.slice none 0 0) ∧ w = w' := by
  have c0 : w.cell? ⟨gb, 30, none⟩ = some (.slice none 0 0) := (hb.cell 30).trans rfl
  clear hb
  go_enter Tryz.func99, Tryz.ntmps99
  go_wp2_with fail
  go_loop [3, 4] (fun y x => x = .int .i64 0 ∧ y = .slice none 0 0) (fun _ _ => 0)
  case atStart => exact ⟨rfl, rfl⟩
  case round =>
    obtain ⟨rfl, rfl⟩ := hrel
    go_wp2
    go_ret
    exact ⟨rfl, rfl⟩
set_option maxRecDepth 100000 in
theorem markedDests_any (w : World) :
    Calls Tryz.prog 116 #[.slice none 0 0] w fun e w' => e = .returned (.bool true) ∧ w = w' := by
  go_enter Tryz.func116, Tryz.ntmps116
  go_wp2_with fail
  go_loop [3] (fun x => x = .int .i64 0) (fun _ => 0)
  case atStart => exact rfl
  case round =>
    subst hrel
    go_wp2
    go_ret
    exact ⟨rfl, rfl⟩
set_option maxRecDepth 100000 in
theorem stillTables_any (gb : Nat) (tx tw lg lw : Value) (w : World) (hb : Blk w gb 51 (bookCells tx tw lg lw)) :
    Calls Tryz.prog 66 #[.pointer (some ⟨gb, 0, none⟩)] w fun e w' => e = .returned (.bool true) ∧ w = w' := by
  have c0 : w.cell? ⟨gb, 32, none⟩ = some (.slice none 0 0) := (hb.cell 32).trans rfl
  clear hb
  go_enter Tryz.func66, Tryz.ntmps66
  go_wp2_with fail
  go_loop [3] (fun x => x = .int .i64 0) (fun _ => 0)
  case atStart => exact rfl
  case round =>
    subst hrel
    go_wp2
    go_ret
    exact ⟨rfl, rfl⟩
set_option maxRecDepth 100000 in
theorem putTables_any (gb : Nat) (tx tw lg lw : Value) (w : World) (hb : Blk w gb 51 (bookCells tx tw lg lw)) :
    Calls Tryz.prog 68 #[.pointer (some ⟨gb, 0, none⟩)] w fun e w' => e = .returned (.tuple #[]) ∧ w = w' := by
  have c0 : w.cell? ⟨gb, 32, none⟩ = some (.slice none 0 0) := (hb.cell 32).trans rfl
  clear hb
  go_enter Tryz.func68, Tryz.ntmps68
  go_wp2_with fail
  go_loop [2] (fun x => x = .int .i64 0) (fun _ => 0)
  case atStart => exact rfl
  case round =>
    subst hrel
    go_wp2
    go_end0
    exact ⟨rfl, rfl⟩
set_option maxRecDepth 100000 in
theorem growTables_any (gb : Nat) (tx tw lg lw : Value) (w : World) (hb : Blk w gb 51 (bookCells tx tw lg lw)) :
    Calls Tryz.prog 100 #[.pointer (some ⟨gb, 0, none⟩)] w fun e w' => e = .returned (.slice none 0 0) ∧ w = w' := by
  have c0 : w.cell? ⟨gb, 32, none⟩ = some (.slice none 0 0) := (hb.cell 32).trans rfl
  clear hb
  go_enter Tryz.func100, Tryz.ntmps100
  go_wp2_with fail
  go_loop [3, 4] (fun y x => x = .int .i64 0 ∧ y = .slice none 0 0) (fun _ _ => 0)
  case atStart => exact ⟨rfl, rfl⟩
  case round =>
    obtain ⟨rfl, rfl⟩ := hrel
    go_wp2
    go_ret
    exact ⟨rfl, rfl⟩
set_option maxRecDepth 100000 in
theorem markedTables_any (w : World) :
    Calls Tryz.prog 117 #[.slice none 0 0] w fun e w' => e = .returned (.bool true) ∧ w = w' := by
  go_enter Tryz.func117, Tryz.ntmps117
  go_wp2_with fail
  go_loop [3] (fun x => x = .int .i64 0) (fun _ => 0)
  case atStart => exact rfl
  case round =>
    subst hrel
    go_wp2
    go_ret
    exact ⟨rfl, rfl⟩
end Go.Proofs.YtemjipongehjlaaGreat
