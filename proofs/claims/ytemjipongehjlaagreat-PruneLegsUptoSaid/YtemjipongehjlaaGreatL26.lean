/- What the book's Apart says (printed by a program). -/
import Derived.Test.YtemjipongehjlaaGreatL25
import Derived.Test.YtemjipongehjlaaGreatL16
namespace Go.Proofs.YtemjipongehjlaaGreat
set_option linter.unusedVariables false
open Go.RowKit Go.BigFrame
set_option maxRecDepth 1000000 in
set_option maxHeartbeats 40000000 in
theorem apart_any (gb B M N : Nat) (tx tw lg lw : Value) (tv tu v u : Nat → Value) (ts : Nat → List ByteArray) (l : Nat → List P.Leg) (w : World)
    (hb : Blk w gb 51 (bookCells tx tw lg lw)) (hT : KeptS w B M tx tv ts) (hTw : KeptS w B M tw tu ts) (hL : KeptL w B N lg v l) (hLw : KeptL w B N lw u l) (hM : M ≤ 250) (hN : N ≤ 250) (hB : B ≤ w.heap.size) :
    Calls Tryz.prog 27 #[.pointer (some ⟨gb, 0, none⟩)] w fun e w' => e = .returned (.bool true) ∧ Below B w w' := by
  have B0 := Lib.hid hb
  have T0 := Lib.hid hT
  have U0 := Lib.hid hTw
  have L0 := Lib.hid hL
  have K0 := Lib.hid hLw
  clear hb hT hTw hL hLw
  go_enter Tryz.func27, Tryz.ntmps27
  go_wp2_with fail
  refine (stillTexts_any gb B M lg lw tx tw tv tu ts w B0.out T0.out U0.out hM).mono ?_
  rintro e w1 ⟨rfl, hb1⟩
  have B1 := Lib.hid (B0.out.stays hb1)
  have S1 := Lib.hid (show Stays w w1 from hb1)
  clear hb1
  go_wp2_with (first
      | (go_at_call 51; refine (stillInts_any gb tx tw lg lw _ B1.out).mono ?_; rintro e w9 ⟨rfl, rfl⟩)
      | (go_at_call 52; refine (stillPairs_any gb tx tw lg lw _ B1.out).mono ?_; rintro e w9 ⟨rfl, rfl⟩)
      | (go_at_call 53; refine (stillWords_any gb tx tw lg lw _ B1.out).mono ?_; rintro e w9 ⟨rfl, rfl⟩)
      | (go_at_call 54; refine (stillNodes_any gb tx tw lg lw _ B1.out).mono ?_; rintro e w9 ⟨rfl, rfl⟩)
      | (go_at_call 55; refine (stillTrees_any gb tx tw lg lw _ B1.out).mono ?_; rintro e w9 ⟨rfl, rfl⟩)
      | (go_at_call 56; refine (stillComps_any gb tx tw lg lw _ B1.out).mono ?_; rintro e w9 ⟨rfl, rfl⟩)
      | (go_at_call 57; refine (stillReps_any gb tx tw lg lw _ B1.out).mono ?_; rintro e w9 ⟨rfl, rfl⟩)
      | (go_at_call 58; refine (stillFields_any gb tx tw lg lw _ B1.out).mono ?_; rintro e w9 ⟨rfl, rfl⟩)
      | (go_at_call 59; refine (stillSegments_any gb tx tw lg lw _ B1.out).mono ?_; rintro e w9 ⟨rfl, rfl⟩)
      | (go_at_call 61; refine (stillEvents_any gb tx tw lg lw _ B1.out).mono ?_; rintro e w9 ⟨rfl, rfl⟩)
      | (go_at_call 62; refine (stillTasks_any gb tx tw lg lw _ B1.out).mono ?_; rintro e w9 ⟨rfl, rfl⟩)
      | (go_at_call 63; refine (stillSteps_any gb tx tw lg lw _ B1.out).mono ?_; rintro e w9 ⟨rfl, rfl⟩)
      | (go_at_call 64; refine (stillChannels_any gb tx tw lg lw _ B1.out).mono ?_; rintro e w9 ⟨rfl, rfl⟩)
      | (go_at_call 65; refine (stillDests_any gb tx tw lg lw _ B1.out).mono ?_; rintro e w9 ⟨rfl, rfl⟩)
      | (go_at_call 66; refine (stillTables_any gb tx tw lg lw _ B1.out).mono ?_; rintro e w9 ⟨rfl, rfl⟩))
  refine (stillLegs_any gb B N tx tw lg lw v u l w1 B1.out (L0.out.stays S1.out) (K0.out.stays S1.out) hN).mono ?_
  rintro e w2 ⟨rfl, hb2⟩
  have S2 := Lib.hid (show Stays w w2 from S1.out.trans hb2)
  have B2 := Lib.hid (B0.out.stays S2.out)
  have T2 := Lib.hid (T0.out.stays S2.out)
  have L2 := Lib.hid (L0.out.stays S2.out)
  clear hb2
  go_wp2_with (first
      | (go_at_call 51; refine (stillInts_any gb tx tw lg lw _ B2.out).mono ?_; rintro e w9 ⟨rfl, rfl⟩)
      | (go_at_call 52; refine (stillPairs_any gb tx tw lg lw _ B2.out).mono ?_; rintro e w9 ⟨rfl, rfl⟩)
      | (go_at_call 53; refine (stillWords_any gb tx tw lg lw _ B2.out).mono ?_; rintro e w9 ⟨rfl, rfl⟩)
      | (go_at_call 54; refine (stillNodes_any gb tx tw lg lw _ B2.out).mono ?_; rintro e w9 ⟨rfl, rfl⟩)
      | (go_at_call 55; refine (stillTrees_any gb tx tw lg lw _ B2.out).mono ?_; rintro e w9 ⟨rfl, rfl⟩)
      | (go_at_call 56; refine (stillComps_any gb tx tw lg lw _ B2.out).mono ?_; rintro e w9 ⟨rfl, rfl⟩)
      | (go_at_call 57; refine (stillReps_any gb tx tw lg lw _ B2.out).mono ?_; rintro e w9 ⟨rfl, rfl⟩)
      | (go_at_call 58; refine (stillFields_any gb tx tw lg lw _ B2.out).mono ?_; rintro e w9 ⟨rfl, rfl⟩)
      | (go_at_call 59; refine (stillSegments_any gb tx tw lg lw _ B2.out).mono ?_; rintro e w9 ⟨rfl, rfl⟩)
      | (go_at_call 61; refine (stillEvents_any gb tx tw lg lw _ B2.out).mono ?_; rintro e w9 ⟨rfl, rfl⟩)
      | (go_at_call 62; refine (stillTasks_any gb tx tw lg lw _ B2.out).mono ?_; rintro e w9 ⟨rfl, rfl⟩)
      | (go_at_call 63; refine (stillSteps_any gb tx tw lg lw _ B2.out).mono ?_; rintro e w9 ⟨rfl, rfl⟩)
      | (go_at_call 64; refine (stillChannels_any gb tx tw lg lw _ B2.out).mono ?_; rintro e w9 ⟨rfl, rfl⟩)
      | (go_at_call 65; refine (stillDests_any gb tx tw lg lw _ B2.out).mono ?_; rintro e w9 ⟨rfl, rfl⟩)
      | (go_at_call 66; refine (stillTables_any gb tx tw lg lw _ B2.out).mono ?_; rintro e w9 ⟨rfl, rfl⟩))
  go_wp2_with (first
      | (go_at_call 76; refine (putInts_any gb tx tw lg lw _ B2.out).mono ?_; rintro e w9 ⟨rfl, rfl⟩)
      | (go_at_call 77; refine (putPairs_any gb tx tw lg lw _ B2.out).mono ?_; rintro e w9 ⟨rfl, rfl⟩)
      | (go_at_call 78; refine (putWords_any gb tx tw lg lw _ B2.out).mono ?_; rintro e w9 ⟨rfl, rfl⟩)
      | (go_at_call 79; refine (putNodes_any gb tx tw lg lw _ B2.out).mono ?_; rintro e w9 ⟨rfl, rfl⟩)
      | (go_at_call 74; refine (putTrees_any gb tx tw lg lw _ B2.out).mono ?_; rintro e w9 ⟨rfl, rfl⟩)
      | (go_at_call 73; refine (putComps_any gb tx tw lg lw _ B2.out).mono ?_; rintro e w9 ⟨rfl, rfl⟩)
      | (go_at_call 72; refine (putReps_any gb tx tw lg lw _ B2.out).mono ?_; rintro e w9 ⟨rfl, rfl⟩)
      | (go_at_call 71; refine (putFields_any gb tx tw lg lw _ B2.out).mono ?_; rintro e w9 ⟨rfl, rfl⟩)
      | (go_at_call 70; refine (putSegments_any gb tx tw lg lw _ B2.out).mono ?_; rintro e w9 ⟨rfl, rfl⟩)
      | (go_at_call 81; refine (putEvents_any gb tx tw lg lw _ B2.out).mono ?_; rintro e w9 ⟨rfl, rfl⟩)
      | (go_at_call 82; refine (putTasks_any gb tx tw lg lw _ B2.out).mono ?_; rintro e w9 ⟨rfl, rfl⟩)
      | (go_at_call 69; refine (putSteps_any gb tx tw lg lw _ B2.out).mono ?_; rintro e w9 ⟨rfl, rfl⟩)
      | (go_at_call 67; refine (putChannels_any gb tx tw lg lw _ B2.out).mono ?_; rintro e w9 ⟨rfl, rfl⟩)
      | (go_at_call 83; refine (putDests_any gb tx tw lg lw _ B2.out).mono ?_; rintro e w9 ⟨rfl, rfl⟩)
      | (go_at_call 68; refine (putTables_any gb tx tw lg lw _ B2.out).mono ?_; rintro e w9 ⟨rfl, rfl⟩))
  have h2 : B ≤ w2.heap.size := Nat.le_trans hB S2.out.size
  refine (putTexts_any gb B M lg lw tx tw tv ts w2 B2.out T2.out hM h2).mono ?_
  rintro e w3 ⟨rfl, hk3, hf3⟩
  have F3 := Lib.hid hf3
  have T3 := Lib.hid hk3
  have B3 := Lib.hid (B2.out.frame hf3 (by decide))
  have L3 := Lib.hid (L2.out.frame hf3 (by decide) (by decide))
  have h3 : B ≤ w3.heap.size := Nat.le_trans h2 hf3.size
  clear hk3 hf3
  go_wp2_with (first
      | (go_at_call 76; refine (putInts_any gb tx tw lg lw _ B3.out).mono ?_; rintro e w9 ⟨rfl, rfl⟩)
      | (go_at_call 77; refine (putPairs_any gb tx tw lg lw _ B3.out).mono ?_; rintro e w9 ⟨rfl, rfl⟩)
      | (go_at_call 78; refine (putWords_any gb tx tw lg lw _ B3.out).mono ?_; rintro e w9 ⟨rfl, rfl⟩)
      | (go_at_call 79; refine (putNodes_any gb tx tw lg lw _ B3.out).mono ?_; rintro e w9 ⟨rfl, rfl⟩)
      | (go_at_call 74; refine (putTrees_any gb tx tw lg lw _ B3.out).mono ?_; rintro e w9 ⟨rfl, rfl⟩)
      | (go_at_call 73; refine (putComps_any gb tx tw lg lw _ B3.out).mono ?_; rintro e w9 ⟨rfl, rfl⟩)
      | (go_at_call 72; refine (putReps_any gb tx tw lg lw _ B3.out).mono ?_; rintro e w9 ⟨rfl, rfl⟩)
      | (go_at_call 71; refine (putFields_any gb tx tw lg lw _ B3.out).mono ?_; rintro e w9 ⟨rfl, rfl⟩)
      | (go_at_call 70; refine (putSegments_any gb tx tw lg lw _ B3.out).mono ?_; rintro e w9 ⟨rfl, rfl⟩)
      | (go_at_call 81; refine (putEvents_any gb tx tw lg lw _ B3.out).mono ?_; rintro e w9 ⟨rfl, rfl⟩)
      | (go_at_call 82; refine (putTasks_any gb tx tw lg lw _ B3.out).mono ?_; rintro e w9 ⟨rfl, rfl⟩)
      | (go_at_call 69; refine (putSteps_any gb tx tw lg lw _ B3.out).mono ?_; rintro e w9 ⟨rfl, rfl⟩)
      | (go_at_call 67; refine (putChannels_any gb tx tw lg lw _ B3.out).mono ?_; rintro e w9 ⟨rfl, rfl⟩)
      | (go_at_call 83; refine (putDests_any gb tx tw lg lw _ B3.out).mono ?_; rintro e w9 ⟨rfl, rfl⟩)
      | (go_at_call 68; refine (putTables_any gb tx tw lg lw _ B3.out).mono ?_; rintro e w9 ⟨rfl, rfl⟩))
  refine (putLegs_any gb B N tx tw lg lw v l w3 B3.out L3.out hN h3).mono ?_
  rintro e w4 ⟨rfl, hk4, hf4⟩
  have F4 := Lib.hid hf4
  have L4 := Lib.hid (hk4.congr (l' := fun i => P.marksL i 0 (l i).length) (fun i hi => by unfold marksOf; rw [if_pos hi]))
  have T4 := Lib.hid ((T3.out.frame hf4 (by decide) (by decide)).congr (l' := fun i => P.marksS i 0 (ts i).length) (fun i hi => by unfold marksOfT; rw [if_pos hi]))
  have B4 := Lib.hid (B3.out.frame hf4 (by decide))
  have h4 : B ≤ w4.heap.size := Nat.le_trans h3 hf4.size
  clear hk4 hf4
  go_wp2_with (first
      | (go_at_call 76; refine (putInts_any gb tx tw lg lw _ B4.out).mono ?_; rintro e w9 ⟨rfl, rfl⟩)
      | (go_at_call 77; refine (putPairs_any gb tx tw lg lw _ B4.out).mono ?_; rintro e w9 ⟨rfl, rfl⟩)
      | (go_at_call 78; refine (putWords_any gb tx tw lg lw _ B4.out).mono ?_; rintro e w9 ⟨rfl, rfl⟩)
      | (go_at_call 79; refine (putNodes_any gb tx tw lg lw _ B4.out).mono ?_; rintro e w9 ⟨rfl, rfl⟩)
      | (go_at_call 74; refine (putTrees_any gb tx tw lg lw _ B4.out).mono ?_; rintro e w9 ⟨rfl, rfl⟩)
      | (go_at_call 73; refine (putComps_any gb tx tw lg lw _ B4.out).mono ?_; rintro e w9 ⟨rfl, rfl⟩)
      | (go_at_call 72; refine (putReps_any gb tx tw lg lw _ B4.out).mono ?_; rintro e w9 ⟨rfl, rfl⟩)
      | (go_at_call 71; refine (putFields_any gb tx tw lg lw _ B4.out).mono ?_; rintro e w9 ⟨rfl, rfl⟩)
      | (go_at_call 70; refine (putSegments_any gb tx tw lg lw _ B4.out).mono ?_; rintro e w9 ⟨rfl, rfl⟩)
      | (go_at_call 81; refine (putEvents_any gb tx tw lg lw _ B4.out).mono ?_; rintro e w9 ⟨rfl, rfl⟩)
      | (go_at_call 82; refine (putTasks_any gb tx tw lg lw _ B4.out).mono ?_; rintro e w9 ⟨rfl, rfl⟩)
      | (go_at_call 69; refine (putSteps_any gb tx tw lg lw _ B4.out).mono ?_; rintro e w9 ⟨rfl, rfl⟩)
      | (go_at_call 67; refine (putChannels_any gb tx tw lg lw _ B4.out).mono ?_; rintro e w9 ⟨rfl, rfl⟩)
      | (go_at_call 83; refine (putDests_any gb tx tw lg lw _ B4.out).mono ?_; rintro e w9 ⟨rfl, rfl⟩)
      | (go_at_call 68; refine (putTables_any gb tx tw lg lw _ B4.out).mono ?_; rintro e w9 ⟨rfl, rfl⟩)
      | (go_at_call 85; refine (growInts_any gb tx tw lg lw _ B4.out).mono ?_; rintro e w9 ⟨rfl, rfl⟩)
      | (go_at_call 86; refine (growPairs_any gb tx tw lg lw _ B4.out).mono ?_; rintro e w9 ⟨rfl, rfl⟩)
      | (go_at_call 87; refine (growWords_any gb tx tw lg lw _ B4.out).mono ?_; rintro e w9 ⟨rfl, rfl⟩)
      | (go_at_call 88; refine (growNodes_any gb tx tw lg lw _ B4.out).mono ?_; rintro e w9 ⟨rfl, rfl⟩)
      | (go_at_call 89; refine (growTrees_any gb tx tw lg lw _ B4.out).mono ?_; rintro e w9 ⟨rfl, rfl⟩)
      | (go_at_call 90; refine (growComps_any gb tx tw lg lw _ B4.out).mono ?_; rintro e w9 ⟨rfl, rfl⟩)
      | (go_at_call 91; refine (growReps_any gb tx tw lg lw _ B4.out).mono ?_; rintro e w9 ⟨rfl, rfl⟩)
      | (go_at_call 92; refine (growFields_any gb tx tw lg lw _ B4.out).mono ?_; rintro e w9 ⟨rfl, rfl⟩)
      | (go_at_call 93; refine (growSegments_any gb tx tw lg lw _ B4.out).mono ?_; rintro e w9 ⟨rfl, rfl⟩)
      | (go_at_call 95; refine (growEvents_any gb tx tw lg lw _ B4.out).mono ?_; rintro e w9 ⟨rfl, rfl⟩)
      | (go_at_call 96; refine (growTasks_any gb tx tw lg lw _ B4.out).mono ?_; rintro e w9 ⟨rfl, rfl⟩)
      | (go_at_call 97; refine (growSteps_any gb tx tw lg lw _ B4.out).mono ?_; rintro e w9 ⟨rfl, rfl⟩)
      | (go_at_call 98; refine (growChannels_any gb tx tw lg lw _ B4.out).mono ?_; rintro e w9 ⟨rfl, rfl⟩)
      | (go_at_call 99; refine (growDests_any gb tx tw lg lw _ B4.out).mono ?_; rintro e w9 ⟨rfl, rfl⟩)
      | (go_at_call 100; refine (growTables_any gb tx tw lg lw _ B4.out).mono ?_; rintro e w9 ⟨rfl, rfl⟩))
  refine (growTexts_any gb B M lg lw tx tw tv (fun i => (ts i).length) w4 B4.out T4.out hM h4 (fun i hi => T0.out.few i hi)).mono ?_
  rintro e w5 ⟨V5, q5, rfl, ho5, hq5, hv5, hf5⟩
  obtain ⟨A5, c5, rfl, _⟩ := own_slice ho5
  have F5 := Lib.hid hf5
  have O5 := Lib.hid ho5
  have Q5 := Lib.hid hq5
  have V5 := Lib.hid hv5
  have X5 := Lib.hid (own_frame T4.out.outer hf5 (by decide))
  have L5 := Lib.hid (L4.out.frame hf5 (by decide) (by decide))
  have B5 := Lib.hid (B4.out.frame hf5 (by decide))
  have h5 : B ≤ w5.heap.size := Nat.le_trans h4 hf5.size
  clear ho5 hq5 hv5 hf5
  go_wp2_with (first
      | (go_at_call 85; refine (growInts_any gb tx tw lg lw _ B5.out).mono ?_; rintro e w9 ⟨rfl, rfl⟩)
      | (go_at_call 86; refine (growPairs_any gb tx tw lg lw _ B5.out).mono ?_; rintro e w9 ⟨rfl, rfl⟩)
      | (go_at_call 87; refine (growWords_any gb tx tw lg lw _ B5.out).mono ?_; rintro e w9 ⟨rfl, rfl⟩)
      | (go_at_call 88; refine (growNodes_any gb tx tw lg lw _ B5.out).mono ?_; rintro e w9 ⟨rfl, rfl⟩)
      | (go_at_call 89; refine (growTrees_any gb tx tw lg lw _ B5.out).mono ?_; rintro e w9 ⟨rfl, rfl⟩)
      | (go_at_call 90; refine (growComps_any gb tx tw lg lw _ B5.out).mono ?_; rintro e w9 ⟨rfl, rfl⟩)
      | (go_at_call 91; refine (growReps_any gb tx tw lg lw _ B5.out).mono ?_; rintro e w9 ⟨rfl, rfl⟩)
      | (go_at_call 92; refine (growFields_any gb tx tw lg lw _ B5.out).mono ?_; rintro e w9 ⟨rfl, rfl⟩)
      | (go_at_call 93; refine (growSegments_any gb tx tw lg lw _ B5.out).mono ?_; rintro e w9 ⟨rfl, rfl⟩)
      | (go_at_call 95; refine (growEvents_any gb tx tw lg lw _ B5.out).mono ?_; rintro e w9 ⟨rfl, rfl⟩)
      | (go_at_call 96; refine (growTasks_any gb tx tw lg lw _ B5.out).mono ?_; rintro e w9 ⟨rfl, rfl⟩)
      | (go_at_call 97; refine (growSteps_any gb tx tw lg lw _ B5.out).mono ?_; rintro e w9 ⟨rfl, rfl⟩)
      | (go_at_call 98; refine (growChannels_any gb tx tw lg lw _ B5.out).mono ?_; rintro e w9 ⟨rfl, rfl⟩)
      | (go_at_call 99; refine (growDests_any gb tx tw lg lw _ B5.out).mono ?_; rintro e w9 ⟨rfl, rfl⟩)
      | (go_at_call 100; refine (growTables_any gb tx tw lg lw _ B5.out).mono ?_; rintro e w9 ⟨rfl, rfl⟩))
  refine (growLegs_any gb B N tx tw lg lw v (fun i => (l i).length) w5 B5.out L5.out hN h5 (fun i hi => L0.out.few i hi)).mono ?_
  rintro e w6 ⟨V6, q6, rfl, ho6, hq6, hv6, hf6⟩
  obtain ⟨A6, c6, rfl, _⟩ := own_slice ho6
  have F6 := Lib.hid hf6
  have O6 := Lib.hid ho6
  have Q6 := Lib.hid hq6
  have V6 := Lib.hid hv6
  have X6 := Lib.hid (own_frame L5.out.outer hf6 (by decide))
  have OT6 := Lib.hid (own_frame O5.out hf6 (by decide))
  have XT6 := Lib.hid (own_frame X5.out hf6 (by decide))
  have QT6 := Lib.hid (fun i (hi : i < M) => (Q5.out i hi).frame hf6 (by decide))
  have VT6 := Lib.hid (fun i (hi : i < M) => (V5.out i hi).frame hf6 (by decide))
  have B6 := Lib.hid (B5.out.frame hf6 (by decide))
  have h6 : B ≤ w6.heap.size := Nat.le_trans h5 hf6.size
  clear ho6 hq6 hv6 hf6
  go_wp2_with (first
      | (go_at_call 85; refine (growInts_any gb tx tw lg lw _ B6.out).mono ?_; rintro e w9 ⟨rfl, rfl⟩)
      | (go_at_call 86; refine (growPairs_any gb tx tw lg lw _ B6.out).mono ?_; rintro e w9 ⟨rfl, rfl⟩)
      | (go_at_call 87; refine (growWords_any gb tx tw lg lw _ B6.out).mono ?_; rintro e w9 ⟨rfl, rfl⟩)
      | (go_at_call 88; refine (growNodes_any gb tx tw lg lw _ B6.out).mono ?_; rintro e w9 ⟨rfl, rfl⟩)
      | (go_at_call 89; refine (growTrees_any gb tx tw lg lw _ B6.out).mono ?_; rintro e w9 ⟨rfl, rfl⟩)
      | (go_at_call 90; refine (growComps_any gb tx tw lg lw _ B6.out).mono ?_; rintro e w9 ⟨rfl, rfl⟩)
      | (go_at_call 91; refine (growReps_any gb tx tw lg lw _ B6.out).mono ?_; rintro e w9 ⟨rfl, rfl⟩)
      | (go_at_call 92; refine (growFields_any gb tx tw lg lw _ B6.out).mono ?_; rintro e w9 ⟨rfl, rfl⟩)
      | (go_at_call 93; refine (growSegments_any gb tx tw lg lw _ B6.out).mono ?_; rintro e w9 ⟨rfl, rfl⟩)
      | (go_at_call 95; refine (growEvents_any gb tx tw lg lw _ B6.out).mono ?_; rintro e w9 ⟨rfl, rfl⟩)
      | (go_at_call 96; refine (growTasks_any gb tx tw lg lw _ B6.out).mono ?_; rintro e w9 ⟨rfl, rfl⟩)
      | (go_at_call 97; refine (growSteps_any gb tx tw lg lw _ B6.out).mono ?_; rintro e w9 ⟨rfl, rfl⟩)
      | (go_at_call 98; refine (growChannels_any gb tx tw lg lw _ B6.out).mono ?_; rintro e w9 ⟨rfl, rfl⟩)
      | (go_at_call 99; refine (growDests_any gb tx tw lg lw _ B6.out).mono ?_; rintro e w9 ⟨rfl, rfl⟩)
      | (go_at_call 100; refine (growTables_any gb tx tw lg lw _ B6.out).mono ?_; rintro e w9 ⟨rfl, rfl⟩))
  obtain ⟨Ax, cx, rfl, _⟩ := own_slice XT6.out
  obtain ⟨Ay, cy, rfl, _⟩ := own_slice X6.out
  refine (markedTexts_any w4.heap.size M c5 A5 q5 (fun i => (ts i).length + 72) w6 OT6.out (fun i hi => (QT6.out i hi).told (P.marksS_len _ _ _)) (fun i hi => by have := T0.out.few i hi; omega) hM).mono ?_
  rintro e w7 ⟨rfl, hb7⟩
  have S7 := Lib.hid (show Stays w6 w7 from hb7)
  have B7 := Lib.hid (B6.out.stays hb7)
  have c0 : w7.cell? ⟨gb, 0, none⟩ = some (.slice Ax M cx) := (B7.out.cell 0).trans rfl
  clear hb7
  go_wp2_with fail
  refine (markedTexts_any B M cx Ax tv (fun i => (ts i).length) w7 (own_stays XT6.out S7.out) (fun i hi => ((VT6.out i hi).stays S7.out).told (P.marksS_len _ _ _)) (fun i hi => by have := T0.out.few i hi; omega) hM).mono ?_
  rintro e w8 ⟨rfl, hb8⟩
  have S8 := Lib.hid (show Stays w6 w8 from S7.out.trans hb8)
  have B8 := Lib.hid (B6.out.stays S8.out)
  clear hb8 c0
  have fc2 : w8.cell? ⟨gb, 2, none⟩ = some (.slice none 0 0) := (B8.out.cell 2).trans rfl
  have fc4 : w8.cell? ⟨gb, 4, none⟩ = some (.slice none 0 0) := (B8.out.cell 4).trans rfl
  have fc6 : w8.cell? ⟨gb, 6, none⟩ = some (.slice none 0 0) := (B8.out.cell 6).trans rfl
  have fc8 : w8.cell? ⟨gb, 8, none⟩ = some (.slice none 0 0) := (B8.out.cell 8).trans rfl
  have fc10 : w8.cell? ⟨gb, 10, none⟩ = some (.slice none 0 0) := (B8.out.cell 10).trans rfl
  have fc12 : w8.cell? ⟨gb, 12, none⟩ = some (.slice none 0 0) := (B8.out.cell 12).trans rfl
  have fc14 : w8.cell? ⟨gb, 14, none⟩ = some (.slice none 0 0) := (B8.out.cell 14).trans rfl
  have fc16 : w8.cell? ⟨gb, 16, none⟩ = some (.slice none 0 0) := (B8.out.cell 16).trans rfl
  have fc18 : w8.cell? ⟨gb, 18, none⟩ = some (.slice none 0 0) := (B8.out.cell 18).trans rfl
  go_wp2_with fail
  refine (markedInts_any _).mono ?_
  rintro e w9 ⟨rfl, rfl⟩
  go_wp2_with fail
  refine (markedInts_any _).mono ?_
  rintro e w9 ⟨rfl, rfl⟩
  go_wp2_with fail
  refine (markedPairs_any _).mono ?_
  rintro e w9 ⟨rfl, rfl⟩
  go_wp2_with fail
  refine (markedPairs_any _).mono ?_
  rintro e w9 ⟨rfl, rfl⟩
  go_wp2_with fail
  refine (markedWords_any _).mono ?_
  rintro e w9 ⟨rfl, rfl⟩
  go_wp2_with fail
  refine (markedWords_any _).mono ?_
  rintro e w9 ⟨rfl, rfl⟩
  go_wp2_with fail
  refine (markedNodes_any _).mono ?_
  rintro e w9 ⟨rfl, rfl⟩
  go_wp2_with fail
  refine (markedNodes_any _).mono ?_
  rintro e w9 ⟨rfl, rfl⟩
  go_wp2_with fail
  refine (markedTrees_any _).mono ?_
  rintro e w9 ⟨rfl, rfl⟩
  go_wp2_with fail
  refine (markedTrees_any _).mono ?_
  rintro e w9 ⟨rfl, rfl⟩
  go_wp2_with fail
  refine (markedComps_any _).mono ?_
  rintro e w9 ⟨rfl, rfl⟩
  go_wp2_with fail
  refine (markedComps_any _).mono ?_
  rintro e w9 ⟨rfl, rfl⟩
  go_wp2_with fail
  refine (markedReps_any _).mono ?_
  rintro e w9 ⟨rfl, rfl⟩
  go_wp2_with fail
  refine (markedReps_any _).mono ?_
  rintro e w9 ⟨rfl, rfl⟩
  go_wp2_with fail
  refine (markedFields_any _).mono ?_
  rintro e w9 ⟨rfl, rfl⟩
  go_wp2_with fail
  refine (markedFields_any _).mono ?_
  rintro e w9 ⟨rfl, rfl⟩
  go_wp2_with fail
  refine (markedSegments_any _).mono ?_
  rintro e w9 ⟨rfl, rfl⟩
  go_wp2_with fail
  refine (markedSegments_any _).mono ?_
  rintro e w9 ⟨rfl, rfl⟩
  go_wp2_with fail
  refine (markedLegs_any w5.heap.size N c6 A6 q6 (fun i => (l i).length + 72) w8 (own_stays O6.out S8.out) (fun i hi => ((Q6.out i hi).stays S8.out).told (P.marksL_len _ _ _)) (fun i hi => by have := L0.out.few i hi; omega) hN).mono ?_
  rintro e w10 ⟨rfl, hb10⟩
  have S10 := Lib.hid (show Stays w6 w10 from S8.out.trans hb10)
  have B10 := Lib.hid (B6.out.stays S10.out)
  have d20 : w10.cell? ⟨gb, 20, none⟩ = some (.slice Ay N cy) := (B10.out.cell 20).trans rfl
  clear hb10 fc2 fc4 fc6 fc8 fc10 fc12 fc14 fc16 fc18
  go_wp2_with fail
  refine (markedLegs_any B N cy Ay v (fun i => (l i).length) w10 (own_stays X6.out S10.out) (fun i hi => ((V6.out i hi).stays S10.out).told (P.marksL_len _ _ _)) (fun i hi => by have := L0.out.few i hi; omega) hN).mono ?_
  rintro e w11 ⟨rfl, hb11⟩
  have S11 := Lib.hid (show Stays w6 w11 from S10.out.trans hb11)
  have B11 := Lib.hid (B6.out.stays S11.out)
  clear hb11 d20
  have e22 : w11.cell? ⟨gb, 22, none⟩ = some (.slice none 0 0) := (B11.out.cell 22).trans rfl
  have e24 : w11.cell? ⟨gb, 24, none⟩ = some (.slice none 0 0) := (B11.out.cell 24).trans rfl
  have e26 : w11.cell? ⟨gb, 26, none⟩ = some (.slice none 0 0) := (B11.out.cell 26).trans rfl
  have e28 : w11.cell? ⟨gb, 28, none⟩ = some (.slice none 0 0) := (B11.out.cell 28).trans rfl
  have e30 : w11.cell? ⟨gb, 30, none⟩ = some (.slice none 0 0) := (B11.out.cell 30).trans rfl
  have e32 : w11.cell? ⟨gb, 32, none⟩ = some (.slice none 0 0) := (B11.out.cell 32).trans rfl
  go_wp2_with fail
  refine (markedEvents_any _).mono ?_
  rintro e w9 ⟨rfl, rfl⟩
  go_wp2_with fail
  refine (markedEvents_any _).mono ?_
  rintro e w9 ⟨rfl, rfl⟩
  go_wp2_with fail
  refine (markedTasks_any _).mono ?_
  rintro e w9 ⟨rfl, rfl⟩
  go_wp2_with fail
  refine (markedTasks_any _).mono ?_
  rintro e w9 ⟨rfl, rfl⟩
  go_wp2_with fail
  refine (markedSteps_any _).mono ?_
  rintro e w9 ⟨rfl, rfl⟩
  go_wp2_with fail
  refine (markedSteps_any _).mono ?_
  rintro e w9 ⟨rfl, rfl⟩
  go_wp2_with fail
  refine (markedChannels_any _).mono ?_
  rintro e w9 ⟨rfl, rfl⟩
  go_wp2_with fail
  refine (markedChannels_any _).mono ?_
  rintro e w9 ⟨rfl, rfl⟩
  go_wp2_with fail
  refine (markedDests_any _).mono ?_
  rintro e w9 ⟨rfl, rfl⟩
  go_wp2_with fail
  refine (markedDests_any _).mono ?_
  rintro e w9 ⟨rfl, rfl⟩
  go_wp2_with fail
  refine (markedTables_any _).mono ?_
  rintro e w9 ⟨rfl, rfl⟩
  go_wp2_with fail
  refine (markedTables_any _).mono ?_
  rintro e w9 ⟨rfl, rfl⟩
  go_wp2
  go_ret
  exact ⟨rfl, (((((S2.out.mono hB).trans (F3.out.below h2)).trans (F4.out.below h3)).trans (F5.out.below h4)).trans (F6.out.below h5)).trans (S11.out.mono h6)⟩
end Go.Proofs.YtemjipongehjlaaGreat