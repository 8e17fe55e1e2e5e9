/- BitsChanged: the walk. -/
import Derived.Test.YtefebcibcmjbaaaBitsAlive
import Derived.Lib.ConvBytes
import Derived.Deep.RegionWith
import Derived.Deep.RegionHeld3
import Derived.BigQuiet
import Derived.Deep.QuietTactic
namespace Go.Proofs.Ytefebcibcmjbaaa
open Go.RowKit Go.BigFrame
/-- A block that holds a list of bytes ahead of other cells, and may be written there. -/
def BytesAt (w : World) (g : Nat) (l : List UInt8) : Prop :=
  ∃ cs t m, w.heap[g]? = some (.cells cs t (m, m + 1)) ∧ l.length ≤ m ∧ ∀ i, i < l.length → cs[i]? = (cellsU8 l)[i]?
theorem BytesAt.cell {w : World} {g : Nat} {l : List UInt8} (h : BytesAt w g l) (i : Nat) (hi : i < l.length) : w.cell? ⟨g, i, none⟩ = some (.int .u8 (l[i].toNat : Int)) := by
  obtain ⟨cs, t, m, h1, h2, h3⟩ := h
  rw [cell_of_row w g i cs t _ h1, h3 i hi, cellsU8_get]
  simp [hi]
theorem BytesAt.frozen {w : World} {g : Nat} {l : List UInt8} (h : BytesAt w g l) (i : Nat) (hi : i < l.length) : w.frozen? ⟨g, i, none⟩ = false := by
  obtain ⟨cs, t, m, h1, h2, h3⟩ := h
  simp [World.frozen?, h1]
  omega
theorem BytesAt.set_ {w : World} {g : Nat} {l : List UInt8} (h : BytesAt w g l) (i : Nat) (hi : i < l.length) (b : UInt8) : BytesAt (w.setCell ⟨g, i, none⟩ (.int .u8 (b.toNat : Int))) g (l.set i b) := by
  obtain ⟨cs, t, m, h1, h2, h3⟩ := h
  refine ⟨cs.setIfInBounds i (.int .u8 (b.toNat : Int)), t, m, by simp [World.setCell, Array.getElem?_modify, h1], by simpa using h2, fun j hj => ?_⟩
  rw [← cellsU8_set]
  by_cases hij : i = j
  · subst hij
    rw [Array.getElem?_setIfInBounds_self, Array.getElem?_setIfInBounds_self]
    have h4 := h3 i hi
    have hc : i < (cellsU8 l).size := by rw [cellsU8_size]; exact hi
    rw [Array.getElem?_eq_getElem hc] at h4
    have hcs : i < cs.size := by
      rcases Nat.lt_or_ge i cs.size with h | h
      · exact h
      · rw [Array.getElem?_eq_none h] at h4; cases h4
    simp [hcs, hc]
  · rw [Array.getElem?_setIfInBounds_ne hij, Array.getElem?_setIfInBounds_ne hij]
    exact h3 j (by simpa using hj)
theorem BytesAt.lt {w : World} {g : Nat} {l : List UInt8} (h : BytesAt w g l) : g < w.heap.size := by
  obtain ⟨cs, t, m, h1, _⟩ := h
  rcases Nat.lt_or_ge g w.heap.size with hlt | hge
  · exact hlt
  · rw [Array.getElem?_eq_none hge] at h1; cases h1
theorem BytesAt.below {w w' : World} {g B : Nat} {l : List UInt8} (h : BytesAt w g l) (hb : Below B w w') (hg : g < B) : BytesAt w' g l := by
  obtain ⟨cs, t, m, h1, h2⟩ := h
  exact ⟨cs, t, m, (hb.block g hg).trans h1, h2⟩
theorem BytesAt.string {w : World} {g c : Nat} {l : List UInt8} (h : BytesAt w g l) :
    (convert 23 9 (.slice (some ⟨g, 0, none⟩) l.length c)).run Try.prog w = .ok (.string ⟨l.toArray⟩) w := by
  have h1 := run_convert_bytes_arg (P := Try.prog) w 23 5 Try.underlying23 Try.underlying5 g 0 l.length c (l.map fun b => (b.toNat : Int)) (by simp) (fun i hi => by
    rw [Nat.zero_add, h.cell i hi]
    simp [hi]) 9 Try.underlying9
  rw [h1]
  have he : ((fun n : Int => UInt8.ofNat n.toNat) ∘ fun b : UInt8 => (b.toNat : Int)) = id := by funext b; simp
  simp [strOfNums, he]
theorem bytes_of (w : World) (s : ByteArray) : ∃ c W2, (convert 9 23 (.string s)).run Try.prog w = .ok (.slice (some ⟨w.heap.size, 0, none⟩) s.size c) W2 ∧ s.size ≤ c ∧ BytesAt W2 w.heap.size s.data.toList ∧ Below w.heap.size w W2 := by
  have h := Lib.run_convert_string_bytes (P := Try.prog) w 9 23 5 s Try.underlying9 Try.underlying23 Try.underlying5
  refine ⟨_, _, h, ?_, ?_, ?_⟩
  · exact grownCap_ge _ _ _ _
  · refine ⟨_, _, _, Lib.bytesWorld_at_new w _ s, ?_, ?_⟩
    · simp [Lib.bytesCells]
    · intro i hi
      have hi' : i < s.data.size := by simpa using hi
      simp [Lib.bytesCells, Array.getElem?_append, cellsU8, hi']
      intro h
      have : s.data.size = s.size := rfl
      omega
  · refine ⟨rfl, rfl, rfl, by rw [Lib.bytesWorld_size]; omega, fun k hk => Lib.bytesWorld_at_old w _ s k hk⟩
set_option maxRecDepth 100000 in
set_option maxHeartbeats 400000 in
theorem bitsChanged_any (s : ByteArray) (a y : Int) (w : World) (hs : s.size ≤ maxLen) (ha : -9223372036854775808 ≤ a) (ha' : a ≤ 9223372036854775807) :
    Calls Try.prog 3 #[.string s, .int .i64 a, .int .i64 y] w fun e w' => e = .returned (.bool true) ∧ Below w.heap.size w w' := by
  unfold maxLen at hs
  by_cases h1 : s.size = 0 ∨ 3000 < s.size ∨ y % 256 = 0
  · rcases (by omega : s.size = 0 ∨ (s.size ≠ 0 ∧ 3000 < s.size) ∨ (s.size ≠ 0 ∧ s.size ≤ 3000 ∧ y % 256 = 0)) with h | ⟨h, h'⟩ | ⟨h, h', h''⟩
    · have h6 : ((s.size : Int) == 0) = true := beq_iff_eq.2 (by omega)
      go_enter Try.func3, Try.ntmps3
      go_wp2_with (go_at_call 10; refine (alive1 _).mono ?_; rintro e w1 ⟨rfl, hb1⟩)
      go_ret
      exact ⟨rfl, hb1⟩
    · have h6 : ((s.size : Int) == 0) = false := beq_eq_false_iff_ne.2 (by omega)
      have h7 : decide (3000 < (s.size : Int)) = true := by simp; omega
      go_enter Try.func3, Try.ntmps3
      go_wp2_with (go_at_call 10; refine (alive1 _).mono ?_; rintro e w1 ⟨rfl, hb1⟩)
      go_ret
      exact ⟨rfl, hb1⟩
    · have h6 : ((s.size : Int) == 0) = false := beq_eq_false_iff_ne.2 (by omega)
      have h7 : decide (3000 < (s.size : Int)) = false := by simp; omega
      have h4 : (y % 256 == 0) = true := by simp; omega
      clear h''
      go_enter Try.func3, Try.ntmps3
      go_wp2_with (go_at_call 10; refine (alive1 _).mono ?_; rintro e w1 ⟨rfl, hb1⟩)
      go_ret
      exact ⟨rfl, hb1⟩
  · have h2 : 0 < s.size := by omega
    have h3 : s.size ≤ 3000 := by omega
    have h4 : (y % 256 == 0) = false := by simp; omega
    have h6 : ((s.size : Int) == 0) = false := beq_eq_false_iff_ne.2 (by omega)
    have h7 : decide (3000 < (s.size : Int)) = false := by simp; omega
    obtain ⟨r, hr⟩ : ∃ r, a.tmod (s.size : Int) = r := ⟨_, rfl⟩
    have hr1 : -(s.size : Int) < r := by rw [← hr]; exact Int.lt_tmod_of_pos _ (by omega)
    have hr2 : r < (s.size : Int) := by rw [← hr]; exact Int.tmod_lt_of_pos _ (by omega)
    obtain ⟨c, W2, hcv, hc, hblk, hbel⟩ := bytes_of w s
    obtain ⟨k, hk2, hk⟩ : ∃ k : Nat, k < s.size ∧ ((r < 0 ∧ r + (s.size : Int) = (k : Int)) ∨ (r = (k : Int))) := by
      by_cases h5 : r < 0
      · exact ⟨(r + s.size).toNat, by omega, .inl ⟨h5, by omega⟩⟩
      · exact ⟨r.toNat, by omega, .inr (by omega)⟩
    have hk3 : k < s.data.toList.length := by simpa using hk2
    have hcell := hblk.cell k hk3
    have hfr := hblk.frozen k hk3
    have hnz : UInt8.ofNat (y % 256).toNat ≠ 0 := by
      intro h
      have := congrArg UInt8.toNat h
      simp at this
      omega
    have hz : (y % 256) = (((UInt8.ofNat (y % 256).toNat).toNat : Nat) : Int) := by simp; omega
    generalize UInt8.ofNat (y % 256).toNat = z at hnz hz
    have hne := P.crc_set_ne s.data.toList k (s.data.toList[k] ^^^ z) hk3 (by
      intro h
      have h' : s.data.toList[k] ^^^ z = s.data.toList[k] ^^^ 0 := by rw [h]; simp
      exact hnz ((UInt8.xor_right_inj _).1 h'))
    have hset := hblk.set_ k hk3 (s.data.toList[k] ^^^ z)
    generalize s.data.toList[k] = b0 at hcell hne hset
    have hx : bits BinOp.xor IntKind.u8 (b0.toNat : Int) (y % 256) = (((b0 ^^^ z).toNat : Nat) : Int) := by
      rw [hz, u8_xor_nat _ _ b0.toNat_lt z.toNat_lt]; simp
    generalize (b0 ^^^ z) = b1 at hne hset hx
    have hl1 := P.crc_lt s.data.toList
    have hl2 := P.crc_lt (s.data.toList.set k b1)
    have hlen : (s.data.toList.set k b1).length = s.size := by simp
    have hneB : (((P.crc s.data.toList : Nat) : Int) != ((P.crc (s.data.toList.set k b1) : Nat) : Int)) = true := by rw [bne_iff_ne]; omega
    have hsz : (⟨(s.data.toList.set k b1).toArray⟩ : ByteArray).size ≤ 2 ^ 63 - 1 := by show (s.data.toList.set k b1).toArray.size ≤ _; rw [List.size_toArray, hlen]; omega
    have Hsz := Lib.hid hsz
    have hdl : decide (((P.crc s.data.toList : Nat) : Int) < 4294967296) = true := decide_eq_true (by omega)
    have Hlen := Lib.hid hlen
    have Hset := Lib.hid hset
    clear h1 hz hne hnz hlen hset hblk hk3 hsz
    have fin : Calls Try.prog 3 #[.string s, .int .i64 a, .int .i64 y] w fun e w' => e = .returned (.bool true) ∧ Below w.heap.size w w' := by
      rcases hk with ⟨h5, hk⟩ | hk
      · go_enter Try.func3, Try.ntmps3
        go_wp2_with fail
        have hst : ∀ x : Ext (W2.setCell ⟨w.heap.size, k, none⟩ (.int .u8 (b1.toNat : Int))), (convert 23 9 (.slice (some ⟨w.heap.size, 0, none⟩) s.size c)).run Try.prog x.wd = .ok (.string ⟨(s.data.toList.set k b1).toArray⟩) x.wd := fun x => by
          have h := (Hset.out.below x.hb Hset.out.lt).string (c := c)
          rw [Hlen.out] at h
          exact h
        refine wp_region_ext (by kernel_rfl) (by kernel_rfl) ?_
        repeat (first | go_big_quiet_step ((first
          | (go_at_call 10; exact Ext.calls _ (alive1 _))
          | (go_at_call 11; exact Ext.calls_same _ (crc_any _ _ (by first | exact hs | exact Hsz.out))))) | quiet_step ((first
          | (go_at_call 10; exact Ext.calls _ (alive1 _))
          | (go_at_call 11; exact Ext.calls_same _ (crc_any _ _ (by first | exact hs | exact Hsz.out))))))
        refine wpQuiet_nil ?_
        intro w3 hb3
        have hb4 : Below w.heap.size w w3 := (hbel.setCell (p := ⟨w.heap.size, k, none⟩) (Nat.le_refl _) (.int .u8 (b1.toNat : Int))).trans (hb3.mono (by have := hbel.size; simpa using this))
        go_wp2
        go_ret
        exact ⟨rfl, hb4⟩
      · have hkk : k = r.toNat := by omega
        have h5 : 0 ≤ r := by omega
        clear hk
        subst hkk
        have hdr : decide (r < 0) = false := decide_eq_false (by omega)
        go_enter Try.func3, Try.ntmps3
        go_wp2_with fail
        have hst : ∀ x : Ext (W2.setCell ⟨w.heap.size, r.toNat, none⟩ (.int .u8 (b1.toNat : Int))), (convert 23 9 (.slice (some ⟨w.heap.size, 0, none⟩) s.size c)).run Try.prog x.wd = .ok (.string ⟨(s.data.toList.set r.toNat b1).toArray⟩) x.wd := fun x => by
          have h := (Hset.out.below x.hb Hset.out.lt).string (c := c)
          rw [Hlen.out] at h
          exact h
        refine wp_region_ext (by kernel_rfl) (by kernel_rfl) ?_
        repeat (first | go_big_quiet_step ((first
          | (go_at_call 10; exact Ext.calls _ (alive1 _))
          | (go_at_call 11; exact Ext.calls_same _ (crc_any _ _ (by first | exact hs | exact Hsz.out))))) | quiet_step ((first
          | (go_at_call 10; exact Ext.calls _ (alive1 _))
          | (go_at_call 11; exact Ext.calls_same _ (crc_any _ _ (by first | exact hs | exact Hsz.out))))))
        refine wpQuiet_nil ?_
        intro w3 hb3
        have hb4 : Below w.heap.size w w3 := (hbel.setCell (p := ⟨w.heap.size, r.toNat, none⟩) (Nat.le_refl _) (.int .u8 (b1.toNat : Int))).trans (hb3.mono (by have := hbel.size; simpa using this))
        go_wp2
        go_ret
        exact ⟨rfl, hb4⟩
    exact fin
end Go.Proofs.Ytefebcibcmjbaaa
