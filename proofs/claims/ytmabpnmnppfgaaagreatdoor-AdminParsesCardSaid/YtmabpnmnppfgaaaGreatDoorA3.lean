/- Part A3 of the proof: the statement that is proved stands in the text that ends with its name. No conditions beyond the card's. -/
import Derived.Test.YtmabpnmnppfgaaaGreatDoorP3
import Derived.Test.YtmabpnmnppfgaaaGreatDoorA2
import Derived.Lib.SlTrimSet
import Derived.Deep.Cut
import Derived.Deep.DeepCutAuto
import Derived.Laws.ResultCell
namespace Go.Proofs.YtmabpnmnppfgaaaGreatDoor
set_option linter.unusedVariables false
open Go Go.RowKit Go.BigFrame
theorem OwnB.blk {w w' : World} {B : Nat} {v : Value} {l : List UInt8} (h : OwnB w B v l) (hb : ∀ g, v.ownBlock = some g → w'.heap[g]? = w.heap[g]?) : OwnB w' B v l := ownsRow_blk h hb
theorem OwnB.form {w : World} {B : Nat} {v : Value} {l : List UInt8} (h : OwnB w B v l) : ∃ A c, v = .slice A l.length c ∧ (∀ g, v.ownBlock = some g → B ≤ g) := by
  rcases h.2 with ⟨rfl, h2⟩ | ⟨g, cap, cur, rfl, hB, hh, hnc, hcm, hcs, htake⟩
  · exact ⟨none, 0, by rw [h2], fun g hg => by simp [Value.ownBlock] at hg⟩
  · exact ⟨_, cap, rfl, fun g' hg => by simp [Value.ownBlock] at hg; omega⟩
def BAt (w : World) (b B : Nat) (l : List UInt8) : Prop :=
  ∃ p A c, Blk w b 165 #[p, .slice A l.length c] ∧ (p = .pointer none ∨ p = .pointer (some ⟨b, 0, none⟩)) ∧ OwnB w B (.slice A l.length c) l
theorem BAt.below {w w' : World} {b B : Nat} {l : List UInt8} (h : BAt w b B l) (hb : Below w.heap.size w w') : BAt w' b B l := by
  obtain ⟨p, A, c, h1, h2, h3⟩ := h
  exact ⟨p, A, c, h1.below hb h1.lt, h2, h3.below hb (Nat.le_refl _)⟩
theorem bcheck_any (b B : Nat) (l : List UInt8) (w : World) (h : BAt w b B l) (hbB : b < B) :
    Calls Tryz.prog 219 #[.pointer (some ⟨b, 0, none⟩)] w fun e w' => e = .returned (.tuple #[]) ∧ (∃ A c, Blk w' b 165 #[.pointer (some ⟨b, 0, none⟩), .slice A l.length c] ∧ OwnB w' B (.slice A l.length c) l) ∧ Below b w w' ∧ w'.heap.size = w.heap.size := by
  obtain ⟨p, A, c, h1, h2, h3⟩ := h
  rcases h2 with rfl | rfl
  · have hsh : w.shape? b = some (165, 2) := by
      unfold World.shape?
      rw [show w.heap[b]? = _ from h1]
      rfl
    refine (check_fresh 165 2 (by decide) (by kernel_rfl) b w (h1.cell 0) hsh (h1.frozen 0)).mono ?_
    rintro e w' ⟨rfl, rfl⟩
    have hb2 : ∀ j, j ≠ b → (w.setCell ⟨b, 0, none⟩ (.pointer (some ⟨b, 0, none⟩))).heap[j]? = w.heap[j]? := fun j hj => Below.heap_setCell w ⟨b, 0, none⟩ _ j (by simpa using hj)
    refine ⟨rfl, ⟨A, c, h1.set_ 0 _, h3.blk fun g hg => hb2 g ?_⟩, ⟨rfl, rfl, rfl, by simp, fun j hj => hb2 j (by omega)⟩, by simp⟩
    have := (World.ownsRow.lt h3 g hg).1
    omega
  · refine (check_used b w (h1.cell 0)).mono ?_
    rintro e w' ⟨rfl, rfl⟩
    exact ⟨rfl, ⟨A, c, h1, h3⟩, Below.refl _ _, rfl⟩
theorem BAt.wrote {w w4 : World} {b B n cp cp2 : Nat} {A A2 : Option Addr} {l2 : List UInt8} {m : Nat} (h : Blk w4 b 165 #[.pointer (some ⟨b, 0, none⟩), .slice A m cp]) (ho : OwnB w4 B (.slice A2 l2.length cp2) l2) (hb : Below b w w4) (hbB : b < B) (hn : n = l2.length) :
    BAt (w4.setCell ⟨b, 1, none⟩ (.slice A2 n cp2)) b B l2 ∧ Below b w (w4.setCell ⟨b, 1, none⟩ (.slice A2 n cp2)) := by
  subst hn
  have hx := h.set_ 1 (.slice A2 l2.length cp2)
  refine ⟨⟨_, A2, cp2, hx, .inr rfl, ho.blk fun g hg => Below.heap_setCell w4 ⟨b, 1, none⟩ _ g ?_⟩, hb.setCell (Nat.le_refl _) _⟩
  have := (World.ownsRow.lt ho g hg).1
  show g ≠ b
  omega
set_option maxRecDepth 100000 in
set_option maxHeartbeats 400000 in
theorem wbyte_any (b B : Nat) (l : List UInt8) (c : UInt8) (w : World) (h : BAt w b B l) (hbB : b < B) (hB : B ≤ w.heap.size) (hl : l.length ≤ 1000000) :
    Calls Tryz.prog 132 #[.pointer (some ⟨b, 0, none⟩), .int .u8 (c.toNat : Int)] w fun e w' => e = .returned .nilIface ∧ BAt w' b B (l ++ [c]) ∧ Below b w w' := by
  have K := Lib.hid (bcheck_any b B l w h hbB)
  clear h
  go_enter Tryz.func132, Tryz.ntmps132
  go_wp2_with fail
  refine K.out.mono ?_
  rintro e w1 ⟨rfl, ⟨A, cp, hblk, hown⟩, hb1, hsz⟩
  have c1 : w1.cell? ⟨b, 1, none⟩ = some (.slice A l.length cp) := hblk.cell 1
  have f1 := hblk.frozen 1
  have HSZ := Lib.hid hsz
  clear K hsz
  go_wp2_with (at_builtin; refine wpList_append_bytes rfl (.tmp 11) (.tmp 13) rfl B (.slice A l.length cp) l rfl (hown.alloc _) ⟨w1.heap.size, 0, none⟩ 1 1 [c] rfl rfl (newsU8 w1 5 [c]) (by simp; omega) (by have := HSZ.out; simp; omega) ?_; intro o4 w4 hown4 hb4; obtain ⟨A2, cp2, rfl, hge⟩ := hown4.form; have hblk4 := (hblk.alloc (.cells #[.int .u8 (c.toNat : Int)] 5)).below hb4 hbB; have c4 : w4.cell? ⟨b, 1, none⟩ = some (.slice A l.length cp) := hblk4.cell 1; have f4 := hblk4.frozen 1)
  go_ret
  obtain ⟨h1, h2⟩ := BAt.wrote (w := w) (n := l.length + 1) hblk4 hown4 (hb1.trans (((Below.refl b w1).alloc (by have := HSZ.out; omega) _).trans (hb4.mono (Nat.le_of_lt hbB)))) hbB (by simp)
  exact ⟨rfl, h1, h2⟩
set_option maxRecDepth 100000 in
set_option maxHeartbeats 400000 in
theorem wstr_any (b B : Nat) (l : List UInt8) (t : ByteArray) (w : World) (h : BAt w b B l) (hbB : b < B) (hB : B ≤ w.heap.size) (hl : l.length ≤ 1000000) (ht : t.size ≤ 1000000) :
    Calls Tryz.prog 133 #[.pointer (some ⟨b, 0, none⟩), .string t] w fun e w' => (∃ v, e = .returned v) ∧ BAt w' b B (l ++ t.data.toList) ∧ Below b w w' := by
  have K := Lib.hid (bcheck_any b B l w h hbB)
  clear h
  go_enter Tryz.func133, Tryz.ntmps133
  go_wp2_with fail
  refine K.out.mono ?_
  rintro e w1 ⟨rfl, ⟨A, cp, hblk, hown⟩, hb1, hsz⟩
  have c1 : w1.cell? ⟨b, 1, none⟩ = some (.slice A l.length cp) := hblk.cell 1
  have f1 := hblk.frozen 1
  have HSZ := Lib.hid hsz
  clear K hsz
  go_wp2_with (at_builtin; refine wpList_append_str rfl (.tmp 12) (.tmp 13) rfl B (.slice A l.length cp) l rfl hown t rfl (by omega) (by have := HSZ.out; omega) ?_; intro o4 w4 hown4 hb4; obtain ⟨A2, cp2, rfl, hge⟩ := hown4.form; have hblk4 := hblk.below hb4 hbB; have c4 : w4.cell? ⟨b, 1, none⟩ = some (.slice A l.length cp) := hblk4.cell 1; have f4 := hblk4.frozen 1)
  go_ret2
  obtain ⟨h1, h2⟩ := BAt.wrote (w := w) (n := l.length + t.size) hblk4 hown4 (hb1.trans (hb4.mono (Nat.le_of_lt hbB))) hbB (by simp)
  exact ⟨⟨_, rfl⟩, h1, h2⟩
end Go.Proofs.YtmabpnmnppfgaaaGreatDoor
namespace Go.Proofs.YtmabpnmnppfgaaaGreatDoor
set_option linter.unusedVariables false
open Go Go.RowKit Go.BigFrame
structure Only (b : Nat) (w w' : World) : Prop where
  os : w'.os = w.os
  tape : w'.tape = w.tape
  output : w'.output = w.output
  size : w'.heap.size = w.heap.size
  block : ∀ j, j ≠ b → w'.heap[j]? = w.heap[j]?
theorem Only.refl (b : Nat) (w : World) : Only b w w := ⟨rfl, rfl, rfl, rfl, fun _ _ => rfl⟩
theorem Only.set {b : Nat} {w w' : World} (h : Only b w w') (i : Nat) (v : Value) : Only b w (w'.setCell ⟨b, i, none⟩ v) :=
  ⟨h.os, h.tape, h.output, by simpa using h.size, fun j hj => (Below.heap_setCell w' ⟨b, i, none⟩ v j (by simpa using hj)).trans (h.block j hj)⟩
theorem Only.trans {b : Nat} {w w' w'' : World} (h : Only b w w') (k : Only b w' w'') : Only b w w'' :=
  ⟨k.os.trans h.os, k.tape.trans h.tape, k.output.trans h.output, k.size.trans h.size, fun j hj => (k.block j hj).trans (h.block j hj)⟩
theorem Only.below {b B : Nat} {w w' : World} (h : Only b w w') (hb : B ≤ b) : Below B w w' :=
  ⟨h.os, h.tape, h.output, Nat.le_of_eq h.size.symm, fun j hj => h.block j (by omega)⟩
theorem Only.blk {b g : Nat} {w w' : World} {t : TypeId} {cs : Array Value} (h : Only b w w') (hk : Blk w g t cs) (hg : g ≠ b) : Blk w' g t cs := (h.block g hg).trans hk
theorem trimPrefix_len (a b : List UInt8) : (Lib.trimPrefix a b).length ≤ a.length := by
  unfold Lib.trimPrefix
  split <;> simp
namespace Ad
def upperB (c : UInt8) : Bool := decide (65 ≤ c.toNat ∧ c.toNat ≤ 90)
def segB (c : UInt8) : Bool := upperB c || digit c
def isSeg (l : Bs) : Bool := decide (l.length = 3) && (upperB (l.getD 0 0) && l.all segB)
def numR (o e l : Bs) (bad : Bool) : Bs × Bool :=
  if Lib.hasPrefix l o = true then
    (Lib.trimPrefix ((Lib.trimPrefix l o).drop (run digit (Lib.trimPrefix l o))) e,
     bad || (!P.numOk ((Lib.trimPrefix l o).take (run digit (Lib.trimPrefix l o))) || ((decide (P.numV ((Lib.trimPrefix l o).take (run digit (Lib.trimPrefix l o))) < 1) || decide (200 < P.numV ((Lib.trimPrefix l o).take (run digit (Lib.trimPrefix l o))))) || !Lib.hasPrefix ((Lib.trimPrefix l o).drop (run digit (Lib.trimPrefix l o))) e)))
  else (l, bad)
theorem numR_len (o e l : Bs) (bad : Bool) : (numR o e l bad).1.length ≤ l.length := by
  unfold numR
  split
  · refine Nat.le_trans (trimPrefix_len _ _) ?_
    rw [List.length_drop]
    have := trimPrefix_len l o
    omega
  · exact Nat.le_refl _
end Ad
theorem len_size (s : ByteArray) : s.data.toList.length = s.size := by simp
theorem mk_size (l : List UInt8) : (⟨l.toArray⟩ : ByteArray).size = l.length := by
  show l.toArray.size = l.length
  simp
def RdAt (w : World) (b : Nat) (x : Ad.Bs × Bool) : Prop := Blk w b 347 #[.string ⟨x.1.toArray⟩, .bool x.2]
theorem bytes_back (s : ByteArray) : (⟨s.data.toList.toArray⟩ : ByteArray) = s := by cases s; simp
set_option maxRecDepth 100000 in
set_option maxHeartbeats 8000000 in
theorem pnum_any (b : Nat) (s o e : ByteArray) (bad : Bool) (w : World) (h : Blk w b 347 #[.string s, .bool bad]) (hs : s.size ≤ 1000000) :
    Calls Tryz.prog 274 #[.pointer (some ⟨b, 0, none⟩), .string o, .string e] w fun x w' => (∃ v, x = .returned (.int .i64 v)) ∧ RdAt w' b (Ad.numR o.data.toList e.data.toList s.data.toList bad) ∧ Only b w w' := by
  have c0 : w.cell? ⟨b, 0, none⟩ = some (.string s) := h.cell 0
  have f0 := h.frozen 0
  have c1 : w.cell? ⟨b, 1, none⟩ = some (.bool bad) := h.cell 1
  have f1 := h.frozen 1
  have K1 := Tryz.strings_CutPrefix s o w
  have hr := trimPrefix_len s.data.toList o.data.toList
  obtain ⟨R, hR⟩ : ∃ R, Ad.numR o.data.toList e.data.toList s.data.toList bad = R := ⟨_, rfl⟩
  have hR2 := hR
  unfold Ad.numR at hR2
  rw [hR]
  obtain ⟨r, hr2⟩ : ∃ r : ByteArray, r = ⟨(Lib.trimPrefix s.data.toList o.data.toList).toArray⟩ := ⟨_, rfl⟩
  have hr3 : Lib.trimPrefix s.data.toList o.data.toList = r.data.toList := by rw [hr2]
  have hrs : r.size ≤ s.size := by rw [hr2, mk_size, ← len_size s]; exact hr
  rw [← hr2] at K1
  rw [hr3] at hR2
  generalize Lib.hasPrefix s.data.toList o.data.toList = is at *
  have KK := Lib.hid K1
  have HB := Lib.hid h
  clear hr hr2 hr3 hR K1 h
  cases is with
  | false =>
    rw [if_neg (by simp)] at hR2
    have HR2 := Lib.hid hR2
    clear hR2
    go_enter Tryz.func274, Tryz.ntmps274
    go_wp2_with (refine KK.out.mono ?_; rintro e w' ⟨rfl, rfl⟩)
    go_ret
    refine ⟨⟨_, rfl⟩, ?_, Only.refl _ _⟩
    rw [← HR2.out]
    unfold RdAt
    rw [bytes_back]
    exact HB.out
  | true =>
    rw [if_pos rfl] at hR2
    have HR2 := Lib.hid hR2
    clear hR2
    go_enter Tryz.func274, Tryz.ntmps274
    go_wp2_with (refine KK.out.mono ?_; rintro e w' ⟨rfl, rfl⟩)
    go_loopw [9] (fun x wr => ∃ k : Nat, x = .int .i64 k ∧ k ≤ r.size ∧ wr = w' ∧ RowKit.Hid (∀ j, j < k → ∃ c, r.data.toList[j]? = some c ∧ Ad.digit c = true)) (fun x _ => r.size - (intOf x).toNat)
    case atStart => exact ⟨0, rfl, by omega, by trivial, Lib.hid (fun j hj => absurd hj (by omega))⟩
    case round =>
      obtain ⟨k, rfl, hk, rfl, HALL⟩ := hrel
      have KN := number_any (r.extract 0 k) wr (by rw [ByteArray.size_extract]; unfold maxLen; omega)
      have K2 := Tryz.strings_CutPrefix (r.extract k r.size) e wr
      have HEnd := Lib.hid (show Ad.run Ad.digit r.data.toList = k → Lib.trimPrefix (r.extract k r.size).data.toList e.data.toList = R.1 ∧ (bad || (!P.numOk (r.extract 0 k).data.toList || ((decide (P.numV (r.extract 0 k).data.toList < 1) || decide (200 < P.numV (r.extract 0 k).data.toList)) || !Lib.hasPrefix (r.extract k r.size).data.toList e.data.toList))) = R.2 from fun hk => by
        rw [ext_to, ext_end, ← HR2.out, hk]
        exact ⟨rfl, rfl⟩)
      obtain ⟨t, ht2⟩ : ∃ t : ByteArray, t = ⟨(Lib.trimPrefix (r.extract k r.size).data.toList e.data.toList).toArray⟩ := ⟨_, rfl⟩
      have HEnd := Lib.hid (show Ad.run Ad.digit r.data.toList = k → t = ⟨R.1.toArray⟩ ∧ (bad || (!P.numOk (r.extract 0 k).data.toList || ((decide (P.numV (r.extract 0 k).data.toList < 1) || decide (200 < P.numV (r.extract 0 k).data.toList)) || !Lib.hasPrefix (r.extract k r.size).data.toList e.data.toList))) = R.2 from fun hk => by
        obtain ⟨h1, h2⟩ := HEnd.out hk
        exact ⟨by rw [ht2, h1], h2⟩)
      rw [← ht2] at K2
      unfold P.numE at KN
      generalize Lib.hasPrefix (r.extract k r.size).data.toList e.data.toList = closed at *
      generalize P.numV (r.extract 0 k).data.toList = v at *
      generalize P.numOk (r.extract 0 k).data.toList = er at *
      have KN := Lib.hid KN
      have K2 := Lib.hid K2
      clear ht2
      by_cases hlt : k < r.size
      · have hi1 : ∀ W : World, (Instr.index 9 (.string r) (.int .i64 (k : Int))).run Tryz.prog W = .ok (.int .u8 (r[k].toNat : Int)) W := fun W => idx_atu r k hlt rfl W
        have hc := r[k].toNat_lt
        have hget : r.data.toList[k]? = some r[k] := by
          have h2 : k < r.data.toList.length := by simpa using hlt
          rw [List.getElem?_eq_getElem h2]
          rfl
        have HG := Lib.hid hget
        clear hget
        by_cases hd : 48 ≤ r[k].toNat ∧ r[k].toNat ≤ 57
        · have HD := Lib.hid hd
          obtain ⟨d1, d2⟩ := hd
          go_wp2_with fail
          go_roundw
          case rel =>
            refine ⟨k + 1, by go_num, by omega, by trivial, Lib.hid (fun j hj => ?_)⟩
            rcases Nat.lt_or_ge j k with h | h
            · exact HALL.out j h
            · obtain rfl : j = k := by omega
              exact ⟨_, HG.out, by unfold Ad.digit; exact decide_eq_true HD.out⟩
          case measure => simp [intOf]; omega
        · have HE := Lib.hid (HEnd.out (by
            have h1 := Ad.run_drop Ad.digit r.data.toList k HALL.out
            rw [Ad.run_stop Ad.digit (l := r.data.toList.drop k) (c := r[k]) (by rw [List.getElem?_drop]; exact HG.out) (by unfold Ad.digit; exact decide_eq_false hd)] at h1
            exact h1))
          generalize r[k].toNat = c at *
          clear HG HEnd
          rcases (by omega : c < 48 ∨ (¬ c < 48 ∧ 57 < c)) with d1 | ⟨d1, d2⟩
          all_goals
            clear hd
            cases er <;> cases bad
            all_goals
              go_wp2_with (first | (go_at_call 214; refine KN.out.mono ?_; rintro e w' ⟨rfl, rfl⟩) | (go_at_call 346; refine K2.out.mono ?_; rintro e w' ⟨rfl, rfl⟩))
              all_goals
                go_ret
                refine ⟨⟨_, rfl⟩, ?_, ((Only.refl _ _).set 1 _).set 0 _⟩
                obtain ⟨e1, e2⟩ := HE.out
                have hx : ∀ bb : Bool, bb = R.2 → RdAt ((w'.setCell ⟨b, 1, none⟩ (.bool bb)).setCell ⟨b, 0, none⟩ (.string ⟨R.1.toArray⟩)) b R := by
                  rintro _ rfl
                  exact (HB.out.set_ 1 _).set_ 0 _
                rw [e1]
                first | exact hx _ e2 | exact hx _ (by rw [← e2, decide_eq_true (show v < 1 by assumption)]; rfl) | exact hx _ (by rw [← e2, decide_eq_true (show 200 < v by assumption), Bool.or_true]; rfl)
      · have HE := Lib.hid (HEnd.out (by
            have hk2 : k = r.size := by omega
            have h1 := Ad.run_drop Ad.digit r.data.toList k HALL.out
            rw [List.drop_eq_nil_of_le (by rw [hk2]; simp)] at h1
            exact h1))
        clear HEnd
        cases er <;> cases bad
        all_goals
          go_wp2_with (first | (go_at_call 214; refine KN.out.mono ?_; rintro e w' ⟨rfl, rfl⟩) | (go_at_call 346; refine K2.out.mono ?_; rintro e w' ⟨rfl, rfl⟩))
          all_goals
            go_ret
            refine ⟨⟨_, rfl⟩, ?_, ((Only.refl _ _).set 1 _).set 0 _⟩
            obtain ⟨e1, e2⟩ := HE.out
            have hx : ∀ bb : Bool, bb = R.2 → RdAt ((w'.setCell ⟨b, 1, none⟩ (.bool bb)).setCell ⟨b, 0, none⟩ (.string ⟨R.1.toArray⟩)) b R := by
              rintro _ rfl
              exact (HB.out.set_ 1 _).set_ 0 _
            rw [e1]
            first | exact hx _ e2 | exact hx _ (by rw [← e2, decide_eq_true (show v < 1 by assumption)]; rfl) | exact hx _ (by rw [← e2, decide_eq_true (show 200 < v by assumption), Bool.or_true]; rfl)
def nameSet : List UInt8 := [65, 66, 67, 68, 69, 70, 71, 72, 73, 74, 75, 76, 77, 78, 79, 80, 81, 82, 83, 84, 85, 86, 87, 88, 89, 90, 48, 49, 50, 51, 52, 53, 54, 55, 56, 57]
set_option maxRecDepth 100000 in
theorem nameSet_has (b : UInt8) : nameSet.contains b = Ad.segB b := by
  have : ∀ n : Fin 256, nameSet.contains (UInt8.ofNat n.val) = Ad.segB (UInt8.ofNat n.val) := by decide
  have h := this ⟨b.toNat, by exact b.toNat_lt⟩
  simpa using h
theorem dropWhile_nil {α : Type} (p : α → Bool) (l : List α) : (l.dropWhile p).isEmpty = l.all p := by
  induction l with
  | nil => rfl
  | cons x l ih =>
    rw [List.dropWhile_cons, List.all_cons]
    cases h : p x
    · simp
    · simp [ih]
theorem trimS_empty (l cs : List UInt8) : (Lib.trimS l cs).isEmpty = l.all (cs.contains ·) := by
  unfold Lib.trimS Lib.trimLeftS
  rw [dropWhile_nil]
  unfold Lib.trimRightS
  rw [List.all_reverse]
  by_cases h : l.all (cs.contains ·) = true
  · rw [h]
    have := dropWhile_nil (cs.contains ·) l.reverse
    rw [List.all_reverse, h] at this
    rw [List.isEmpty_iff.1 this]
    rfl
  · have hf : l.all (cs.contains ·) = false := by simpa using h
    rw [hf]
    have h2 := dropWhile_nil (cs.contains ·) l.reverse
    rw [List.all_reverse, hf] at h2
    cases hd : l.reverse.dropWhile (cs.contains ·) with
    | nil => rw [hd] at h2; simp at h2
    | cons x r =>
      have h4 := List.head?_dropWhile_not (cs.contains ·) l.reverse
      rw [hd] at h4
      simp only [List.head?_cons] at h4
      rw [List.all_cons, h4]
      rfl
theorem info232 : (Tryz.prog.info? 414).map (fun i => (i.zero, i.size)) = some (some (.agg (Array.replicate 256 (.bool false))), 256) := by kernel_rfl
theorem trimNames_any (s : ByteArray) (w : World) (hs : s.size ≤ 1000000) :
    Calls Tryz.prog 280 #[.string s, .string ⟨#[65, 66, 67, 68, 69, 70, 71, 72, 73, 74, 75, 76, 77, 78, 79, 80, 81, 82, 83, 84, 85, 86, 87, 88, 89, 90, 48, 49, 50, 51, 52, 53, 54, 55, 56, 57]⟩] w fun e w' => ∃ r : ByteArray, e = .returned (.string r) ∧ r.toList.isEmpty = s.data.toList.all Ad.segB ∧ Below w.heap.size w w' := by
  refine (Tryz.strings_Trim info232 s ⟨nameSet.toArray⟩ w (by omega) (by decide) (ascii_of_all (by decide))).mono fun e w' ⟨he, hb⟩ => ⟨_, he, ?_, hb⟩
  rw [ByteArray.toList_eq]
  have := trimS_empty s.data.toList nameSet
  rw [show (fun b => nameSet.contains b) = Ad.segB from funext nameSet_has] at this
  simpa using this
set_option maxRecDepth 100000 in
set_option maxHeartbeats 1000000 in
theorem tokName_any (s : ByteArray) (w : World) (hs : s.size ≤ 1000000) : Calls Tryz.prog 276 #[.string s] w fun e w' => e = .returned (.bool (Ad.isSeg s.data.toList)) ∧ Below w.heap.size w w' := by
  have KT := Lib.hid (trimNames_any s w hs)
  by_cases h3 : s.size = 3
  · have h0 : 0 < s.size := by omega
    have HN : Ad.isSeg s.data.toList = (Ad.upperB (s[0]'h0) && s.data.toList.all Ad.segB) := by
      have hl : s.data.toList.length = 3 := by simpa using h3
      unfold Ad.isSeg
      rw [hl]
      have : s.data.toList.getD 0 0 = s[0]'h0 := by
        rw [List.getD_eq_getElem?_getD, List.getElem?_eq_getElem (by omega)]
        rfl
      rw [this]
      simp
    have HN' := Lib.hid HN
    have t1 : ((s.size : Int) != 3) = false := by rw [h3]; rfl
    clear HN h3
    generalize Ad.isSeg s.data.toList = res at *
    by_cases ha : (s[0].toNat : Int) < 65
    · have t2 : decide ((s[0].toNat : Int) < 65) = true := by simpa using ha
      have HR := Lib.hid (show res = false from by rw [HN'.out]; have : Ad.upperB s[0] = false := by { unfold Ad.upperB; simp; omega }; rw [this]; rfl)
      go_enter Tryz.func276, Tryz.ntmps276
      go_wp2_with fail
      go_ret
      exact ⟨by rw [HR.out]; rfl, Below.refl _ _⟩
    · have t2 : decide ((s[0].toNat : Int) < 65) = false := by simpa using ha
      by_cases hb : (90 : Int) < (s[0].toNat : Int)
      · have t3 : decide ((90 : Int) < (s[0].toNat : Int)) = true := by simpa using hb
        have HR := Lib.hid (show res = false from by rw [HN'.out]; have : Ad.upperB s[0] = false := by { unfold Ad.upperB; simp; omega }; rw [this]; rfl)
        go_enter Tryz.func276, Tryz.ntmps276
        go_wp2_with fail
        go_ret
        exact ⟨by rw [HR.out]; rfl, Below.refl _ _⟩
      · have t3 : decide ((90 : Int) < (s[0].toNat : Int)) = false := by simpa using hb
        have HR := Lib.hid (show res = s.data.toList.all Ad.segB from by rw [HN'.out]; have : Ad.upperB s[0] = true := by { unfold Ad.upperB; simp; omega }; rw [this]; rfl)
        go_enter Tryz.func276, Tryz.ntmps276
        go_wp2_with fail
        refine KT.out.mono ?_
        rintro e w2 ⟨r, rfl, hr, hb2⟩
        have HB := Lib.hid hb2
        have HRR := Lib.hid hr
        clear hb2 hr
        go_wp2
        go_ret
        exact ⟨by rw [HR.out, ← HRR.out]; rfl, HB.out⟩
  · have HN := Lib.hid (show Ad.isSeg s.data.toList = false from by
      have hl : ¬ s.data.toList.length = 3 := by simpa using h3
      unfold Ad.isSeg
      rw [decide_eq_false hl]
      rfl)
    have t1 : ((s.size : Int) != 3) = true := by simp; omega
    go_enter Tryz.func276, Tryz.ntmps276
    go_wp2_with fail
    go_ret
    exact ⟨by rw [HN.out]; rfl, Below.refl _ _⟩
end Go.Proofs.YtmabpnmnppfgaaaGreatDoor
namespace Go.Proofs.YtmabpnmnppfgaaaGreatDoor
set_option linter.unusedVariables false
open Go Go.RowKit Go.BigFrame
set_option maxRecDepth 100000 in
theorem clone_any (s : ByteArray) (w : World) (hs : s.size ≤ 281474976710656) :
    Calls Tryz.prog 191 #[.string s] w fun e w' => e = .returned (.string s) ∧ Below w.heap.size w w' := by
  have K := Lib.hid (Tryz.stringslite_Clone s w hs)
  go_enter Tryz.func191, Tryz.ntmps191
  go_wp2_with fail
  refine K.out.mono ?_
  rintro e w' ⟨rfl, hb⟩
  go_wp2_with fail
  go_ret
  exact ⟨rfl, hb⟩
def PathC (cs : List Value) : Prop := ∃ (s : ByteArray) (a b c d e : Int), cs = [.string s, .int .i64 a, .int .i64 b, .int .i64 c, .int .i64 d, .int .i64 e]
namespace Ad
def numS (o e : Bs) (x : Bs × Bool) : Bs × Bool := numR o e x.1 x.2
def pathU (x : Bs × Bool) : Bs × Bool := if Lib.hasPrefix x.1 [46] = true then numS [46] [] (numS [46] [] x) else x
def pathT (x : Bs × Bool) : Bs × Bool := if Lib.hasPrefix x.1 [45] = true then pathU (numS [91] [93] (numS [45] [] x)) else x
def pathX (l : Bs) : Bs × Bool := pathT (numS [91] [93] (l.drop (min 3 l.length), false))
def pathOk (l : Bs) : Bool := !(pathX l).2 && (pathX l).1.isEmpty && isSeg (l.take (min 3 l.length))
theorem numS_len {o e : Bs} {x : Bs × Bool} {n : Nat} (h : x.1.length ≤ n) : (numS o e x).1.length ≤ n := Nat.le_trans (numR_len o e x.1 x.2) h
end Ad
structure PSt (w wx : World) (g0 g1 g2 : Nat) (sg : ByteArray) (x : Ad.Bs × Bool) : Prop where
  res : Blk wx g0 69 #[.string ⟨#[]⟩, .int .i64 0, .int .i64 0, .int .i64 0, .int .i64 0, .int .i64 0]
  path : ∃ a b c d e : Int, Blk wx g1 69 #[.string sg, .int .i64 a, .int .i64 b, .int .i64 c, .int .i64 d, .int .i64 e]
  rd : RdAt wx g2 x
  len : x.1.length ≤ 1000000
  bel : Below w.heap.size w wx
section
variable {w wx wy : World} {g0 g1 g2 : Nat} {sg : ByteArray} {x : Ad.Bs × Bool}
theorem PSt.num {o e : Ad.Bs} (h : PSt w wx g0 g1 g2 sg x) (ho : Only g2 wx wy) (hr : RdAt wy g2 (Ad.numS o e x)) (h0 : g0 ≠ g2) (h1 : g1 ≠ g2) (hB : w.heap.size ≤ g2) : PSt w wy g0 g1 g2 sg (Ad.numS o e x) := by
  obtain ⟨r, ⟨a, b, c, d, e, hp⟩, _, hl, hb⟩ := h
  exact ⟨ho.blk r h0, ⟨a, b, c, d, e, ho.blk hp h1⟩, hr, Ad.numS_len hl, hb.trans (ho.below hB)⟩
theorem PSt.read (h : PSt w wx g0 g1 g2 sg x) : ∃ r : ByteArray, r.data.toList = x.1 ∧ r.size ≤ 1000000 ∧ Blk wx g2 347 #[.string r, .bool x.2] :=
  ⟨⟨x.1.toArray⟩, rfl, by rw [mk_size]; exact h.len, h.rd⟩
theorem PSt.calls (h : PSt w wx g0 g1 g2 sg x) (o e : ByteArray) : Calls Tryz.prog 274 #[.pointer (some ⟨g2, 0, none⟩), .string o, .string e] wx fun v w' => (∃ n, v = .returned (.int .i64 n)) ∧ RdAt w' g2 (Ad.numS o.data.toList e.data.toList x) ∧ Only g2 wx w' := by
  obtain ⟨r, h1, h2, h3⟩ := h.read
  unfold Ad.numS
  rw [← h1]
  exact pnum_any g2 r o e x.2 wx h3 h2
theorem PSt.cell (h : PSt w wx g0 g1 g2 sg x) : ∃ (a b c d e : Int), Blk wx g1 69 #[.string sg, .int .i64 a, .int .i64 b, .int .i64 c, .int .i64 d, .int .i64 e] := h.path
theorem PSt.put (h : PSt w wx g0 g1 g2 sg x) (i : Nat) (v : Int) (hi : 1 ≤ i ∧ i ≤ 5) (h0 : g0 ≠ g1) (h1 : g2 ≠ g1) (hB : w.heap.size ≤ g1) : PSt w (wx.setCell ⟨g1, i, none⟩ (.int .i64 v)) g0 g1 g2 sg x := by
  obtain ⟨r, ⟨a, b, c, d, e, hp⟩, hr, hl, hb⟩ := h
  refine ⟨r.far (by simpa using h0) _, ?_, Blk.far hr (by simpa using h1) _, hl, hb.setCell hB _⟩
  have hx := hp.set_ i (.int .i64 v)
  rcases (by omega : i = 1 ∨ i = 2 ∨ i = 3 ∨ i = 4 ∨ i = 5) with rfl | rfl | rfl | rfl | rfl
  · exact ⟨v, b, c, d, e, hx⟩
  · exact ⟨a, v, c, d, e, hx⟩
  · exact ⟨a, b, v, d, e, hx⟩
  · exact ⟨a, b, c, v, e, hx⟩
  · exact ⟨a, b, c, d, v, hx⟩
end
set_option maxRecDepth 100000 in
theorem path_res {W : World} {tmps : Array Value} {g er : _} {s : ByteArray} {a b c d e : Int} (hW : Blk W g 69 #[.string s, .int .i64 a, .int .i64 b, .int .i64 c, .int .i64 d, .int .i64 e]) (h2 : tmps.getD 2 undef = .pointer (some ⟨g, 0, none⟩)) (h3 : tmps.getD 3 undef = er) :
    (results Tryz.f217 tmps).run Tryz.prog W = .ok (.tuple #[.agg #[.string s, .int .i64 a, .int .i64 b, .int .i64 c, .int .i64 d, .int .i64 e], er]) W := by
  rw [results_cell_tmp rfl, h2, h3]
  have c0 := hW.cell
  simp [go_sem, c0]
def PathOut (ok : Bool) (e : Ending) : Prop := ∃ cs er, PathC cs ∧ (er = 0 ↔ ok = true) ∧ e = .returned (.tuple #[.agg cs.toArray, .int .i64 er])
theorem path_out {ok : Bool} (t : ByteArray) (a b c d e : Int) {er : Value} (n : Int) (he : er = .int .i64 n) (h : n = 0 ↔ ok = true) : PathOut ok (.returned (.tuple #[.agg #[.string t, .int .i64 a, .int .i64 b, .int .i64 c, .int .i64 d, .int .i64 e], er])) :=
  ⟨_, n, ⟨t, a, b, c, d, e, rfl⟩, h, by rw [he]⟩
set_option maxRecDepth 100000 in
set_option maxHeartbeats 8000000 in
theorem pathParse_any (s : ByteArray) (w : World) (hs : s.size ≤ 1000000) :
    Calls Tryz.prog 217 #[.string s] w fun e w' => PathOut (Ad.pathOk s.data.toList) e ∧ Below w.heap.size w w' := by
  have hmin : (min 3 (s.size : Int)).toNat = min 3 s.data.toList.length := by rw [len_size]; omega
  have hseg : (s.extract 0 (min 3 (s.size : Int)).toNat).data.toList = s.data.toList.take (min 3 s.data.toList.length) := by rw [ext_to, hmin]
  have hrest : (s.extract (min 3 (s.size : Int)).toNat s.size).data.toList = s.data.toList.drop (min 3 s.data.toList.length) := by rw [ext_end, hmin]
  have HOK := Lib.hid (show Ad.pathOk s.data.toList = (!(Ad.pathT (Ad.numS [91] [93] ((s.extract (min 3 (s.size : Int)).toNat s.size).data.toList, false))).2 && (Ad.pathT (Ad.numS [91] [93] ((s.extract (min 3 (s.size : Int)).toNat s.size).data.toList, false))).1.isEmpty && Ad.isSeg (s.extract 0 (min 3 (s.size : Int)).toNat).data.toList) from by unfold Ad.pathOk Ad.pathX; rw [hseg, hrest])
  clear hmin hseg hrest
  have HTS := Lib.hid (show (s.extract 0 (min 3 (s.size : Int)).toNat).size ≤ 1000000 by rw [ByteArray.size_extract]; omega)
  have K1 := Lib.hid (clone_any (s.extract 0 (min 3 (s.size : Int)).toNat) (w.alloc (.cells #[.string ⟨#[]⟩, .int .i64 0, .int .i64 0, .int .i64 0, .int .i64 0, .int .i64 0] 69)) (by rw [ByteArray.size_extract]; omega))
  go_enter Tryz.func217, Tryz.ntmps217
  go_wp2_with fail
  refine K1.out.mono ?_
  rintro e w1 ⟨rfl, hb1⟩
  have HB1 := Lib.hid hb1
  have HR := Lib.hid ((Blk.new w 69 #[.string ⟨#[]⟩, .int .i64 0, .int .i64 0, .int .i64 0, .int .i64 0, .int .i64 0]).below hb1 (by simp))
  have K2 := Lib.hid (pnum_any (w1.heap.size + 1) (s.extract (min 3 (s.size : Int)).toNat s.size) ⟨#[91]⟩ ⟨#[93]⟩ false ((w1.alloc (.cells #[.string (s.extract 0 (min 3 (s.size : Int)).toNat), .int .i64 0, .int .i64 0, .int .i64 0, .int .i64 0, .int .i64 0] 69)).alloc (.cells #[.string (s.extract (min 3 (s.size : Int)).toNat s.size), .bool false] 347)) (by simpa using Blk.new (w1.alloc (.cells #[.string (s.extract 0 (min 3 (s.size : Int)).toNat), .int .i64 0, .int .i64 0, .int .i64 0, .int .i64 0, .int .i64 0] 69)) 347 #[.string (s.extract (min 3 (s.size : Int)).toNat s.size), .bool false]) (by rw [ByteArray.size_extract]; omega))
  have hw1 : w.heap.size + 1 ≤ w1.heap.size := by have := hb1.size; simpa using this
  have HP0 := Lib.hid (show PSt w ((w1.alloc (.cells #[.string (s.extract 0 (min 3 (s.size : Int)).toNat), .int .i64 0, .int .i64 0, .int .i64 0, .int .i64 0, .int .i64 0] 69)).alloc (.cells #[.string (s.extract (min 3 (s.size : Int)).toNat s.size), .bool false] 347)) w.heap.size w1.heap.size (w1.heap.size + 1) (s.extract 0 (min 3 (s.size : Int)).toNat) ((s.extract (min 3 (s.size : Int)).toNat s.size).data.toList, false) from
    ⟨(HR.out.alloc _).alloc _, ⟨_, _, _, _, _, (Blk.new w1 _ _).alloc _⟩, by
        unfold RdAt
        rw [bytes_back]
        simpa using Blk.new (w1.alloc (.cells #[.string (s.extract 0 (min 3 (s.size : Int)).toNat), .int .i64 0, .int .i64 0, .int .i64 0, .int .i64 0, .int .i64 0] 69)) 347 #[.string (s.extract (min 3 (s.size : Int)).toNat s.size), .bool false], by rw [len_size, ByteArray.size_extract]; omega,
      ((((Below.refl _ w).alloc (Nat.le_refl _) _).trans (hb1.mono (by simp))).alloc (by omega) _).alloc (by simp; omega) _⟩)
  clear hb1 K1 HB1 HR
  go_upto_region 4 with fail
  go_cut [] (fun wx => PSt w wx w.heap.size w1.heap.size (w1.heap.size + 1) (s.extract 0 (min 3 (s.size : Int)).toNat) (Ad.numS [91] [93] ((s.extract (min 3 (s.size : Int)).toNat s.size).data.toList, false)))
  case first =>
    go_wp2_with fail
    refine K2.out.mono ?_
    rintro x w2 ⟨⟨v, rfl⟩, hrd, honly⟩
    have hP := HP0.out.num (o := [91]) (e := [93]) honly hrd (by omega) (by omega) (by omega)
    have HP := Lib.hid hP
    obtain ⟨a, b, c, d, e, hb⟩ := hP.cell
    have c1 : w2.cell? ⟨w1.heap.size, 1, none⟩ = some (.int .i64 a) := hb.cell 1
    have f1 := hb.frozen 1
    clear hb hP hrd honly K2
    go_wp2_with fail
    go_meet
    exact HP.out.put 1 v (by omega) (by omega) (by omega) (by omega)
  case rest =>
    generalize w1.heap.size = g1 at *
    have HP := Lib.hid hcut
    clear hcut HP0 K2
    generalize Ad.numS [91] [93] ((s.extract (min 3 (s.size : Int)).toNat s.size).data.toList, false) = x1 at *
    obtain ⟨s2, hs2, -, hr2⟩ := HP.out.read
    have c0 : wc.cell? ⟨g1 + 1, 0, none⟩ = some (.string s2) := hr2.cell 0
    clear hr2
    obtain ⟨q, hq⟩ : ∃ q, Lib.hasPrefix x1.1 [45] = q := ⟨_, rfl⟩
    have HQ := Lib.hid (show Lib.hasPrefix s2.data.toList (⟨#[45]⟩ : ByteArray).data.toList = q from by rw [hs2]; exact hq)
    clear hs2
    have HT := Lib.hid (show Ad.pathT x1 = if q = true then Ad.pathU (Ad.numS [91] [93] (Ad.numS [45] [] x1)) else x1 from by unfold Ad.pathT; rw [hq])
    clear hq
    go_upto_if 27 with (go_at_call 275; refine (Tryz.strings_HasPrefix s2 ⟨#[45]⟩ wc).mono ?_; rintro e wc ⟨rfl, rfl⟩; rw [HQ.out])
    go_cut [] (fun wx => PSt w wx w.heap.size g1 (g1 + 1) (s.extract 0 (min 3 (s.size : Int)).toNat) (Ad.pathT x1))
    case first =>
      cases q with
      | false =>
        go_wp2_with fail
        go_meet
        rw [show Ad.pathT x1 = x1 from HT.out]
        exact HP.out
      | true =>
        have HT := Lib.hid (show Ad.pathT x1 = Ad.pathU (Ad.numS [91] [93] (Ad.numS [45] [] x1)) from HT.out)
        go_upto_region 6 with fail
        go_cut [] (fun wx => PSt w wx w.heap.size g1 (g1 + 1) (s.extract 0 (min 3 (s.size : Int)).toNat) (Ad.numS [45] [] x1))
        case first =>
          have KN := Lib.hid (HP.out.calls ⟨#[45]⟩ ⟨#[]⟩)
          go_wp2_with fail
          refine KN.out.mono ?_
          rintro x w3 ⟨⟨v, rfl⟩, hrd, honly⟩
          have hP := HP.out.num (o := [45]) (e := []) honly hrd (by omega) (by omega) (by omega)
          have HP3 := Lib.hid hP
          obtain ⟨a, b, c, d, e, hb⟩ := hP.cell
          have cf : w3.cell? ⟨g1, 2, none⟩ = some (.int .i64 b) := hb.cell 2
          have ff := hb.frozen 2
          clear hb hP hrd honly KN
          go_wp2_with fail
          go_meet
          exact HP3.out.put 2 v (by omega) (by omega) (by omega) (by omega)
        case rest =>
          have HP := Lib.hid hcut
          clear hcut
          go_upto_region 7 with fail
          go_cut [] (fun wx => PSt w wx w.heap.size g1 (g1 + 1) (s.extract 0 (min 3 (s.size : Int)).toNat) (Ad.numS [91] [93] (Ad.numS [45] [] x1)))
          case first =>
            have KN := Lib.hid (HP.out.calls ⟨#[91]⟩ ⟨#[93]⟩)
            go_wp2_with fail
            refine KN.out.mono ?_
            rintro x w3 ⟨⟨v, rfl⟩, hrd, honly⟩
            have hP := HP.out.num (o := [91]) (e := [93]) honly hrd (by omega) (by omega) (by omega)
            have HP3 := Lib.hid hP
            obtain ⟨a, b, c, d, e, hb⟩ := hP.cell
            have cf : w3.cell? ⟨g1, 3, none⟩ = some (.int .i64 c) := hb.cell 3
            have ff := hb.frozen 3
            clear hb hP hrd honly KN
            go_wp2_with fail
            go_meet
            exact HP3.out.put 3 v (by omega) (by omega) (by omega) (by omega)
          case rest =>
            have HP := Lib.hid hcut
            clear hcut
            generalize Ad.numS [91] [93] (Ad.numS [45] [] x1) = x2 at *
            go_upto_region 8 with fail
            go_cut [] (fun wx => PSt w wx w.heap.size g1 (g1 + 1) (s.extract 0 (min 3 (s.size : Int)).toNat) x2)
            case first =>
              obtain ⟨a, b, c, d, e, hb⟩ := HP.out.cell
              have c4 : wc.cell? ⟨g1, 4, none⟩ = some (.int .i64 d) := hb.cell 4
              have f4 := hb.frozen 4
              have c5 : wc.cell? ⟨g1, 5, none⟩ = some (.int .i64 e) := hb.cell 5
              have f5 := hb.frozen 5
              clear hb
              go_wp2_with fail
              go_meet
              exact (HP.out.put 4 1 (by omega) (by omega) (by omega) (by omega)).put 5 1 (by omega) (by omega) (by omega) (by omega)
            case rest =>
              have HP := Lib.hid hcut
              clear hcut
              obtain ⟨s2, hs2, -, hr2⟩ := HP.out.read
              have c0 : wc.cell? ⟨g1 + 1, 0, none⟩ = some (.string s2) := hr2.cell 0
              clear hr2
              obtain ⟨q, hq⟩ : ∃ q, Lib.hasPrefix x2.1 [46] = q := ⟨_, rfl⟩
              have HQ := Lib.hid (show Lib.hasPrefix s2.data.toList (⟨#[46]⟩ : ByteArray).data.toList = q from by rw [hs2]; exact hq)
              clear hs2
              have HU := Lib.hid (show Ad.pathT x1 = if q = true then Ad.numS [46] [] (Ad.numS [46] [] x2) else x2 from by rw [HT.out]; unfold Ad.pathU; rw [hq])
              clear hq HT
              go_upto_if 40 with (go_at_call 275; refine (Tryz.strings_HasPrefix s2 ⟨#[46]⟩ wc).mono ?_; rintro e wc ⟨rfl, rfl⟩; rw [HQ.out])
              cases q with
              | false =>
                go_wp2_with fail
                go_meet
                rw [show Ad.pathT x1 = x2 from HU.out]
                exact HP.out
              | true =>
                have HU := Lib.hid (show Ad.pathT x1 = Ad.numS [46] [] (Ad.numS [46] [] x2) from HU.out)
                go_upto_region 10 with fail
                go_cut [] (fun wx => PSt w wx w.heap.size g1 (g1 + 1) (s.extract 0 (min 3 (s.size : Int)).toNat) (Ad.numS [46] [] x2))
                case first =>
                  have KN := Lib.hid (HP.out.calls ⟨#[46]⟩ ⟨#[]⟩)
                  go_wp2_with fail
                  refine KN.out.mono ?_
                  rintro x w3 ⟨⟨v, rfl⟩, hrd, honly⟩
                  have hP := HP.out.num (o := [46]) (e := []) honly hrd (by omega) (by omega) (by omega)
                  have HP3 := Lib.hid hP
                  obtain ⟨a, b, c, d, e, hb⟩ := hP.cell
                  have cf : w3.cell? ⟨g1, 4, none⟩ = some (.int .i64 d) := hb.cell 4
                  have ff := hb.frozen 4
                  clear hb hP hrd honly KN
                  go_wp2_with fail
                  go_meet
                  exact HP3.out.put 4 v (by omega) (by omega) (by omega) (by omega)
                case rest =>
                  have HP := Lib.hid hcut
                  clear hcut
                  have KN := Lib.hid (HP.out.calls ⟨#[46]⟩ ⟨#[]⟩)
                  go_wp2_with fail
                  refine KN.out.mono ?_
                  rintro x w3 ⟨⟨v, rfl⟩, hrd, honly⟩
                  have hP := HP.out.num (o := [46]) (e := []) honly hrd (by omega) (by omega) (by omega)
                  have HP3 := Lib.hid hP
                  obtain ⟨a, b, c, d, e, hb⟩ := hP.cell
                  have cf : w3.cell? ⟨g1, 5, none⟩ = some (.int .i64 e) := hb.cell 5
                  have ff := hb.frozen 5
                  clear hb hP hrd honly KN
                  go_wp2_with fail
                  go_meet
                  rw [HU.out]
                  exact HP3.out.put 5 v (by omega) (by omega) (by omega) (by omega)
    case rest =>
      have HP := Lib.hid hcut
      clear hcut HT
      generalize Ad.pathT x1 = x3 at *
      obtain ⟨l2, bad2⟩ := x3
      generalize (s.extract 0 (min 3 (s.size : Int)).toNat) = t at *
      obtain ⟨a, b, c, d, e, hb⟩ := HP.out.cell
      obtain ⟨s2, hs2, -, hr2⟩ := HP.out.read
      simp only at hs2 hr2
      have HL2 := Lib.hid (show s2.toList.isEmpty = l2.isEmpty from by rw [ByteArray.toList_eq, hs2])
      clear hs2
      have hres := HP.out.res
      have hbel := HP.out.bel
      have hts : t.size ≤ 1000000 := HTS.out
      have b0 : wc.cell? ⟨g1 + 1, 0, none⟩ = some (.string s2) := hr2.cell 0
      have b1 : wc.cell? ⟨g1 + 1, 1, none⟩ = some (.bool bad2) := hr2.cell 1
      have p0 : wc.cell? ⟨g1, 0, none⟩ = some (.string t) := hb.cell 0
      have r0 := hres.cell
      have q0 := hres.frozen
      clear hr2
      have hW := (((((hres.set_ 0 (.string ⟨#[]⟩)).set_ 1 (.int .i64 0)).set_ 2 (.int .i64 0)).set_ 3 (.int .i64 0)).set_ 4 (.int .i64 0)).set_ 5 (.int .i64 0)
      have hBW := (((((hbel.setCell (p := ⟨w.heap.size, 0, none⟩) (Nat.le_refl _) (.string ⟨#[]⟩)).setCell (p := ⟨w.heap.size, 1, none⟩) (Nat.le_refl _) (.int .i64 0)).setCell (p := ⟨w.heap.size, 2, none⟩) (Nat.le_refl _) (.int .i64 0)).setCell (p := ⟨w.heap.size, 3, none⟩) (Nat.le_refl _) (.int .i64 0)).setCell (p := ⟨w.heap.size, 4, none⟩) (Nat.le_refl _) (.int .i64 0)).setCell (p := ⟨w.heap.size, 5, none⟩) (Nat.le_refl _) (.int .i64 0)
      have HW := Lib.hid hW
      have HBW := Lib.hid hBW
      clear hW hBW
      cases bad2 with
      | true =>
        go_wp2_with fail
        refine bodyPost_ret (path_res HW.out rfl rfl) rfl ⟨path_out _ _ _ _ _ _ _ rfl (by rw [HOK.out]; simp), HBW.out⟩
      | false =>
        cases he : s2.toList.isEmpty with
        | false =>
          have HE := Lib.hid (show l2.isEmpty = false from HL2.out.symm.trans he)
          go_wp2_with fail
          refine bodyPost_ret (path_res HW.out rfl rfl) rfl ⟨path_out _ _ _ _ _ _ _ rfl (by rw [HOK.out, HE.out]; simp), HBW.out⟩
        | true =>
          have HE := Lib.hid (show l2.isEmpty = true from HL2.out.symm.trans he)
          have KT := tokName_any t wc hts
          generalize Ad.isSeg t.data.toList = v at *
          have KT := Lib.hid KT
          have HB := Lib.hid hb
          go_wp2_with fail
          refine KT.out.mono ?_
          rintro x w4 ⟨rfl, hb4⟩
          have hres4 := hres.below hb4 hres.lt
          have hbel4 := hbel.trans (hb4.mono hbel.size)
          have hp4 := HB.out.below hb4 HB.out.lt
          have r0 := hres4.cell
          have q0 := hres4.frozen
          have p0 : w4.cell? ⟨g1, 0, none⟩ = some (.string t) := hp4.cell 0
          have p1 : w4.cell? ⟨g1, 1, none⟩ = some (.int .i64 a) := hp4.cell 1
          have p2 : w4.cell? ⟨g1, 2, none⟩ = some (.int .i64 b) := hp4.cell 2
          have p3 : w4.cell? ⟨g1, 3, none⟩ = some (.int .i64 c) := hp4.cell 3
          have p4 : w4.cell? ⟨g1, 4, none⟩ = some (.int .i64 d) := hp4.cell 4
          have p5 : w4.cell? ⟨g1, 5, none⟩ = some (.int .i64 e) := hp4.cell 5
          clear hb4 hb HW HBW
          cases v with
          | false =>
            have hW := (((((hres4.set_ 0 (.string ⟨#[]⟩)).set_ 1 (.int .i64 0)).set_ 2 (.int .i64 0)).set_ 3 (.int .i64 0)).set_ 4 (.int .i64 0)).set_ 5 (.int .i64 0)
            have hBW := (((((hbel4.setCell (p := ⟨w.heap.size, 0, none⟩) (Nat.le_refl _) (.string ⟨#[]⟩)).setCell (p := ⟨w.heap.size, 1, none⟩) (Nat.le_refl _) (.int .i64 0)).setCell (p := ⟨w.heap.size, 2, none⟩) (Nat.le_refl _) (.int .i64 0)).setCell (p := ⟨w.heap.size, 3, none⟩) (Nat.le_refl _) (.int .i64 0)).setCell (p := ⟨w.heap.size, 4, none⟩) (Nat.le_refl _) (.int .i64 0)).setCell (p := ⟨w.heap.size, 5, none⟩) (Nat.le_refl _) (.int .i64 0)
            have HW := Lib.hid hW
            have HBW := Lib.hid hBW
            clear hW hBW
            go_wp2_with fail
            refine bodyPost_ret (path_res HW.out rfl rfl) rfl ⟨path_out _ _ _ _ _ _ _ rfl (by rw [HOK.out, HE.out]; simp), HBW.out⟩
          | true =>
            have hW := (((((hres4.set_ 0 (.string t)).set_ 1 (.int .i64 a)).set_ 2 (.int .i64 b)).set_ 3 (.int .i64 c)).set_ 4 (.int .i64 d)).set_ 5 (.int .i64 e)
            have hBW := (((((hbel4.setCell (p := ⟨w.heap.size, 0, none⟩) (Nat.le_refl _) (.string t)).setCell (p := ⟨w.heap.size, 1, none⟩) (Nat.le_refl _) (.int .i64 a)).setCell (p := ⟨w.heap.size, 2, none⟩) (Nat.le_refl _) (.int .i64 b)).setCell (p := ⟨w.heap.size, 3, none⟩) (Nat.le_refl _) (.int .i64 c)).setCell (p := ⟨w.heap.size, 4, none⟩) (Nat.le_refl _) (.int .i64 d)).setCell (p := ⟨w.heap.size, 5, none⟩) (Nat.le_refl _) (.int .i64 e)
            have HW := Lib.hid hW
            have HBW := Lib.hid hBW
            clear hW hBW
            go_wp2_with fail
            refine bodyPost_ret (path_res HW.out rfl rfl) rfl ⟨path_out _ _ _ _ _ _ _ rfl (by rw [HOK.out, HE.out]; simp), HBW.out⟩
end Go.Proofs.YtmabpnmnppfgaaaGreatDoor
