/- What prune.Forward returns: whether a row may stand where another one stood. -/
import Derived.Test.YtemjipongehjlaaGreatL17
import Derived.Test.YtemjipongehjlaaGreatL7
namespace Go.Proofs.YtemjipongehjlaaGreat
set_option linter.unusedVariables false
open Go.RowKit Go.BigFrame
namespace P
theorem forward_key (a b : Head) (la lb : List Leg) :
    ((a.id == b.id) = false ∧ forward a b la lb = false) ∨
    ((a.id == b.id) = true ∧ (a.run == b.run) = false ∧ forward a b la lb = false) ∨
    ((a.id == b.id) = true ∧ (a.run == b.run) = true ∧ (a.time == b.time) = false ∧ forward a b la lb = false) ∨
    ((a.id == b.id) = true ∧ (a.run == b.run) = true ∧ (a.time == b.time) = true ∧ (a.raw.toList == b.raw.toList) = false ∧ forward a b la lb = false) ∨
    ((a.id == b.id) = true ∧ (a.run == b.run) = true ∧ (a.time == b.time) = true ∧ (a.raw.toList == b.raw.toList) = true ∧
      (((a.state == 0) = true ∧ forward a b la lb = true) ∨ ((a.state == 0) = false ∧ (a.state == b.state) = false ∧ forward a b la lb = false) ∨
       ((a.state == 0) = false ∧ (a.state == b.state) = true ∧ (a.state == 3) = false ∧ forward a b la lb = true) ∨ ((a.state == 0) = false ∧ (a.state == b.state) = true ∧ (a.state == 3) = true ∧ forward a b la lb = mayLegs la lb))) := by
  unfold forward
  rw [ByteArray.toList_eq, ByteArray.toList_eq]
  have h3 : (a.state != 3) = !(a.state == 3) := rfl
  rw [h3]
  cases (a.id == b.id) <;> cases (a.run == b.run) <;> cases (a.time == b.time) <;> cases (a.raw.data.toList == b.raw.data.toList) <;> cases (a.state == 0) <;> cases (a.state == b.state) <;> cases (a.state == 3) <;> simp
end P
theorem ne_of {α : Type} [BEq α] {x y : α} {r : Bool} (h : (x == y) = r) : (x != y) = !r := by rw [bne, h]
set_option maxRecDepth 100000 in
set_option maxHeartbeats 4000000 in
theorem forward_any (id run tm st dn flt : Int) (raw : ByteArray) (A : Option Addr) (m cp : Nat) (la : List P.Leg) (idb runb tmb stb dnb fltb : Int) (rawb : ByteArray) (Ab : Option Addr) (mb cpb : Nat) (lb : List P.Leg) (B : Nat) (w : World)
    (ha : LegsAt w B A m la) (hb : LegsAt w B Ab mb lb) (hB : B ≤ w.heap.size) (hm : m ≤ maxLen) (hmb : mb ≤ maxLen) (hx : ∀ l ∈ la, (Lit.int .i64 l.status).wf = true) (hy : ∀ l ∈ lb, (Lit.int .i64 l.status).wf = true) :
    Calls Tryz.prog 29 #[.agg #[.int .i64 id, .int .i64 run, .int .i64 tm, .int .i64 st, .int .i64 dn, .string raw, .int .i64 flt, .slice A m cp], .agg #[.int .i64 idb, .int .i64 runb, .int .i64 tmb, .int .i64 stb, .int .i64 dnb, .string rawb, .int .i64 fltb, .slice Ab mb cpb]] w fun e w' => e = .returned (.bool (P.forward ⟨id, run, tm, st, dn, raw, flt⟩ ⟨idb, runb, tmb, stb, dnb, rawb, fltb⟩ la lb)) ∧ Below w.heap.size w w' := by
  have key := P.forward_key ⟨id, run, tm, st, dn, raw, flt⟩ ⟨idb, runb, tmb, stb, dnb, rawb, fltb⟩ la lb
  simp only at key
  have hbel := ((Below.refl w.heap.size w).alloc (Nat.le_refl _) (.cells #[.int .i64 id, .int .i64 run, .int .i64 tm, .int .i64 st, .int .i64 dn, .string raw, .int .i64 flt, .slice A m cp] 28)).alloc (by simp) (.cells #[.int .i64 idb, .int .i64 runb, .int .i64 tmb, .int .i64 stb, .int .i64 dnb, .string rawb, .int .i64 fltb, .slice Ab mb cpb] 28)
  have k0 := (Blk.new w 28 #[.int .i64 id, .int .i64 run, .int .i64 tm, .int .i64 st, .int .i64 dn, .string raw, .int .i64 flt, .slice A m cp]).alloc (.cells #[.int .i64 idb, .int .i64 runb, .int .i64 tmb, .int .i64 stb, .int .i64 dnb, .string rawb, .int .i64 fltb, .slice Ab mb cpb] 28)
  have k1 := Blk.new (w.alloc (.cells #[.int .i64 id, .int .i64 run, .int .i64 tm, .int .i64 st, .int .i64 dn, .string raw, .int .i64 flt, .slice A m cp] 28)) 28 #[.int .i64 idb, .int .i64 runb, .int .i64 tmb, .int .i64 stb, .int .i64 dnb, .string rawb, .int .i64 fltb, .slice Ab mb cpb]
  rw [show (w.alloc (.cells #[.int .i64 id, .int .i64 run, .int .i64 tm, .int .i64 st, .int .i64 dn, .string raw, .int .i64 flt, .slice A m cp] 28)).heap.size = w.heap.size + 1 from by simp] at k1
  have HA := Lib.hid ha
  have HY := Lib.hid hy
  have HX := Lib.hid hx
  have HB := Lib.hid hb
  have K0 := Lib.hid k0
  have K1 := Lib.hid k1
  have BB := Lib.hid hbel
  clear ha hb hx hy k0 k1 hbel
  generalize P.forward ⟨id, run, tm, st, dn, raw, flt⟩ ⟨idb, runb, tmb, stb, dnb, rawb, fltb⟩ la lb = r at *
  rcases key with ⟨t1, hr⟩ | ⟨t1, t2, hr⟩ | ⟨t1, t2, t3, hr⟩ | ⟨t1, t2, t3, t4, hr⟩ | ⟨t1, t2, t3, t4, ⟨t5, hr⟩ | ⟨t5, t6, hr⟩ | ⟨t5, t6, t7, hr⟩ | ⟨t5, t6, t7, hr⟩⟩
  all_goals have HR := Lib.hid hr
  all_goals clear hr
  all_goals have u1 := ne_of t1
  · go_enter Tryz.func29, Tryz.ntmps29
    go_wp2
    go_ret
    rw [HR.out]
    exact ⟨rfl, BB.out⟩
  all_goals have u2 := ne_of t2
  · go_enter Tryz.func29, Tryz.ntmps29
    go_wp2
    go_ret
    rw [HR.out]
    exact ⟨rfl, BB.out⟩
  all_goals have u3 := ne_of t3
  · go_enter Tryz.func29, Tryz.ntmps29
    go_wp2
    go_ret
    rw [HR.out]
    exact ⟨rfl, BB.out⟩
  all_goals have u4 := ne_of t4
  · go_enter Tryz.func29, Tryz.ntmps29
    go_wp2
    go_ret
    rw [HR.out]
    exact ⟨rfl, BB.out⟩
  · go_enter Tryz.func29, Tryz.ntmps29
    go_wp2
    go_ret
    rw [HR.out]
    exact ⟨rfl, BB.out⟩
  all_goals have u6 := ne_of t6
  · go_enter Tryz.func29, Tryz.ntmps29
    go_wp2
    go_ret
    rw [HR.out]
    exact ⟨rfl, BB.out⟩
  all_goals have u7 := ne_of t7
  · go_enter Tryz.func29, Tryz.ntmps29
    go_wp2_with fail
    refine (goes_any _).mono ?_
    rintro x w2 ⟨b, nn, rfl, hset, hbs, hb2⟩
    have B2 := Lib.hid (bt'' BB.out hb2)
    have c0 := fun i => ((K0.out.below hb2 K0.out.lt).alloc (.cells #[.map (some b)] 125)).cell i
    clear hset hbs hb2
    go_wp2
    go_ret
    rw [HR.out]
    exact ⟨rfl, B2.out.alloc B2.out.size _⟩
  · go_enter Tryz.func29, Tryz.ntmps29
    go_wp2_with fail
    refine (goes_any _).mono ?_
    rintro x w2 ⟨b, nn, rfl, hset, hbs, hb2⟩
    have B2 := Lib.hid (bt'' BB.out hb2)
    have c0 := fun i => ((K0.out.below hb2 K0.out.lt).alloc (.cells #[.map (some b)] 125)).cell i
    have c1 := fun i => ((K1.out.below hb2 K1.out.lt).alloc (.cells #[.map (some b)] 125)).cell i
    have hW := B2.out.alloc B2.out.size (.cells #[.map (some b)] 125)
    have E := Lib.hid (equalFunc_any A m cp la Ab mb cpb lb w2.heap.size b nn B _ (HA.out.below (hW.mono hB)) (HB.out.below (hW.mono hB)) (Nat.le_trans hB hW.size) hm hmb (by simp) ((Blk.new w2 125 #[.map (some b)]).cell 0) (hset.alloc (.cells #[.map (some b)] 125)) HX.out HY.out)
    have W3 := Lib.hid hW
    clear hset hbs hb2 hW
    go_wp2_with fail
    refine E.out.mono ?_
    rintro x w4 ⟨rfl, hb4⟩
    have B4 := Lib.hid (bt'' W3.out hb4)
    clear hb4 c0 c1
    go_wp2
    go_ret
    rw [HR.out]
    exact ⟨rfl, B4.out⟩
end Go.Proofs.YtemjipongehjlaaGreat
/- The first call of chapter 21's statements: it is alive. No conditions. -/
namespace Go.Proofs.YtemjipongehjlaaGreat
set_option linter.unusedVariables false
open Go.RowKit Go.BigFrame
def dA : P.Dest := ⟨⟨#[97]⟩, 1, false, 0, ⟨#[]⟩, 0, 0, 0, ⟨#[]⟩⟩
def dB : P.Dest := ⟨⟨#[98]⟩, 1, false, 0, ⟨#[]⟩, 0, 0, 0, ⟨#[]⟩⟩
def dX : P.Dest := ⟨⟨#[120]⟩, 2, false, 0, ⟨#[]⟩, 0, 0, 0, ⟨#[]⟩⟩
def dsA : List P.Dest := [dA, dB, dX]
/-- The call hands back a channel of three destinations. -/
def GivesC (w : World) (x : Ending) (w' : World) : Prop := ∃ g, x = .returned (.agg #[.string ⟨#[97, 100, 116]⟩, .bool false, .int .i64 0, .string ⟨#[]⟩, .string ⟨#[]⟩, .string ⟨#[]⟩, .string ⟨#[]⟩, .slice (some ⟨g, 0, none⟩) 3 3, .int .i64 0]) ∧ DestsAt w' w'.heap.size (some ⟨g, 0, none⟩) 3 dsA ∧ w.heap.size ≤ g ∧ Below w.heap.size w w'
set_option maxRecDepth 100000 in
set_option maxHeartbeats 2000000 in
theorem channel_any (w : World) : Calls Tryz.prog 28 #[] w (GivesC w) := by
  go_enter Tryz.func28, Tryz.ntmps28
  go_wp2
  refine bodyPost_ret (v := .agg #[.string ⟨#[97, 100, 116]⟩, .bool false, .int .i64 0, .string ⟨#[]⟩, .string ⟨#[]⟩, .string ⟨#[]⟩, .string ⟨#[]⟩, .slice (some ⟨w.heap.size + 1, 0, none⟩) 3 3, .int .i64 0]) (by simp [results, Tryz.results28, go_sem]) rfl ⟨_, rfl, ?_, by omega, ?_⟩
  · refine (?_ : Reads _ _ 9 _ 3 _)
    refine ⟨rfl, fun _ => ⟨_, rfl, ?_, fun j u hu => ?_⟩⟩
    · simp only [World.alloc, Array.size_push]; omega
    · rw [Addr.add_lit, Nat.zero_add]
      generalize hw : w.alloc _ = w1
      have e : w.heap.size + 1 = w1.heap.size := by rw [← hw]; simp only [World.alloc, Array.size_push]
      rw [e, Blk.cell (Blk.new w1 _ _)]
      rw [← hu]
      exact Array.getElem?_toList.symm
  · exact ((Below.refl _ _).alloc (Nat.le_refl _) _).alloc (by simp only [World.alloc, Array.size_push]; omega) _
end Go.Proofs.YtemjipongehjlaaGreat
/- The first call of chapter 21's statements: it is alive. No conditions. -/
namespace Go.Proofs.YtemjipongehjlaaGreat
set_option linter.unusedVariables false
open Go.RowKit Go.BigFrame
def nA : ByteArray := ⟨#[97]⟩
def nB : ByteArray := ⟨#[98]⟩
def nX : ByteArray := ⟨#[120]⟩
def pA : ByteArray := ⟨#[112]⟩
def lsA : List P.Leg := [⟨nA, 1, 0, 0, pA, ⟨#[]⟩⟩, ⟨nB, 1, 0, 0, pA, ⟨#[]⟩⟩, ⟨nX, 1, 0, 0, pA, ⟨#[]⟩⟩]
def lsB : List P.Leg := [⟨nA, 3, 1, 0, pA, ⟨#[]⟩⟩, ⟨nB, 1, 0, 0, pA, ⟨#[]⟩⟩, ⟨nX, 1, 0, 0, pA, ⟨#[]⟩⟩]
theorem lsA_eq : P.legsOf dsA [] pA = lsA := by kernel_rfl
theorem nextA_eq : P.next 3 dsA lsA = [nA, nX] := by kernel_rfl
theorem lsB_eq : P.turned P.sentLeg 3 dsA lsA nA ⟨#[]⟩ = lsB := by kernel_rfl
theorem nextB_eq : P.next 3 dsA lsB = [nB, nX] := by kernel_rfl
theorem doneB_eq : P.doneOf 3 dsA lsA lsB nA (-1) 5 = -1 := by kernel_rfl
theorem fwdA_eq : P.forward ⟨1, 0, 0, 3, -1, ⟨#[]⟩, 0⟩ ⟨1, 0, 0, 3, -1, ⟨#[]⟩, 0⟩ lsA lsA = true := by kernel_rfl
theorem chainA : ∀ d ∈ dsA, (Lit.int .i64 d.chain).wf = true := by
  intro d hd
  simp only [dsA, List.mem_cons, List.not_mem_nil, or_false] at hd
  rcases hd with rfl | rfl | rfl <;> decide
theorem statA : ∀ l ∈ lsA, (Lit.int .i64 l.status).wf = true := by
  intro d hd
  simp only [lsA, List.mem_cons, List.not_mem_nil, or_false] at hd
  rcases hd with rfl | rfl | rfl <;> decide
theorem triesA : ∀ l ∈ lsA, (Lit.int .i64 l.tries).wf = true := by
  intro d hd
  simp only [lsA, List.mem_cons, List.not_mem_nil, or_false] at hd
  rcases hd with rfl | rfl | rfl <;> decide
end Go.Proofs.YtemjipongehjlaaGreat
/- The first call of chapter 21's statements: it returns true. -/
namespace Go.Proofs.YtemjipongehjlaaGreat
set_option linter.unusedVariables false
open Go.RowKit Go.BigFrame
set_option maxRecDepth 100000 in
set_option maxHeartbeats 4000000 in
theorem alive_any (w : World) : Calls Tryz.prog 5 #[] w fun e w' => e = .returned (.bool true) ∧ Below w.heap.size w w' := by
  go_enter Tryz.func5, Tryz.ntmps5
  go_wp2_with fail
  refine (channel_any _).mono ?_
  rintro x w1 ⟨g, rfl, hd1, -, hb1⟩
  have hl1 := legs_any ⟨#[97, 100, 116]⟩ ⟨#[]⟩ ⟨#[]⟩ ⟨#[]⟩ ⟨#[]⟩ false 0 0 (some ⟨g, 0, none⟩) 3 3 dsA none 0 0 [] pA w1.heap.size (w1.alloc (.cells #[.string ⟨#[97, 100, 116]⟩, .bool false, .int .i64 0, .string ⟨#[]⟩, .string ⟨#[]⟩, .string ⟨#[]⟩, .string ⟨#[]⟩, .slice (some ⟨g, 0, none⟩) 3 3, .int .i64 0] 24)) (hd1.below ((Below.refl _ _).alloc (Nat.le_refl _) _)) Reads.nil (by simp) (by simp) (by simp)
  rw [lsA_eq] at hl1
  have L1 := Lib.hid hl1
  have D1 := Lib.hid hd1
  have B1 := Lib.hid hb1
  have K1 := Lib.hid (Blk.new w1 24 #[.string ⟨#[97, 100, 116]⟩, .bool false, .int .i64 0, .string ⟨#[]⟩, .string ⟨#[]⟩, .string ⟨#[]⟩, .string ⟨#[]⟩, .slice (some ⟨g, 0, none⟩) 3 3, .int .i64 0])
  clear hl1 hd1 hb1
  go_wp2_with fail
  refine L1.out.mono ?_
  rintro x w3 ⟨v, rfl, hown, hb3⟩
  obtain ⟨A2, c2, hv, hl3⟩ := hown.reads
  have hv : v = .slice A2 3 c2 := hv
  subst hv
  have hz : (w1.alloc (.cells #[.string ⟨#[97, 100, 116]⟩, .bool false, .int .i64 0, .string ⟨#[]⟩, .string ⟨#[]⟩, .string ⟨#[]⟩, .string ⟨#[]⟩, .slice (some ⟨g, 0, none⟩) 3 3, .int .i64 0] 24)).heap.size = w1.heap.size + 1 := by simp only [World.alloc, Array.size_push]
  have k3 := K1.out.below hb3 K1.out.lt
  have b3 : Below w1.heap.size w1 w3 := ((Below.refl _ _).alloc (Nat.le_refl _) _).trans (hb3.mono (by rw [hz]; omega))
  have d3 : DestsAt w3 w3.heap.size (some ⟨g, 0, none⟩) 3 dsA := (D1.out.below b3).more b3.size
  have bw3 : Below w.heap.size w w3 := B1.out.trans (b3.mono B1.out.size)
  have hl3 : LegsAt w3 w3.heap.size A2 3 lsA := hl3
  have k4 := Blk.new w3 28 #[.int .i64 1, .int .i64 0, .int .i64 0, .int .i64 3, .int .i64 (-1), .string ⟨#[]⟩, .int .i64 0, .slice A2 3 c2]
  have k34 := k3.alloc (.cells #[.int .i64 1, .int .i64 0, .int .i64 0, .int .i64 3, .int .i64 (-1), .string ⟨#[]⟩, .int .i64 0, .slice A2 3 c2] 28)
  have hs34 : Stays w3 (w3.alloc (.cells #[.int .i64 1, .int .i64 0, .int .i64 0, .int .i64 3, .int .i64 (-1), .string ⟨#[]⟩, .int .i64 0, .slice A2 3 c2] 28)) := Stays.alloc _ _
  have hl4 := (hl3.below hs34).more hs34.size
  have d4 := (d3.below hs34).more hs34.size
  have bw4 : Below w.heap.size w (w3.alloc (.cells #[.int .i64 1, .int .i64 0, .int .i64 0, .int .i64 3, .int .i64 (-1), .string ⟨#[]⟩, .int .i64 0, .slice A2 3 c2] 28)) := bw3.trans (Below.mono hs34 bw3.size)
  have hn4 := next_any 1 0 0 3 (-1) 0 ⟨#[]⟩ A2 3 c2 lsA ⟨#[97, 100, 116]⟩ ⟨#[]⟩ ⟨#[]⟩ ⟨#[]⟩ ⟨#[]⟩ false 0 0 (some ⟨g, 0, none⟩) 3 3 dsA _ _ hl4 d4 (Nat.le_refl _) (by simp [maxLen]) (by simp) chainA
  rw [nextA_eq] at hn4
  have N4 := Lib.hid hn4
  have L4 := Lib.hid hl4
  have D4 := Lib.hid d4
  have K4 := Lib.hid k4
  have K34 := Lib.hid k34
  have B4 := Lib.hid bw4
  clear hn4 hl4 d4 k4 bw4 k34 hs34 k3 b3 d3 bw3 hl3 hz hown hb3 K1 B1 D1 L1
  have c3 := fun i => K34.out.cell i
  go_wp2_with fail
  refine N4.out.mono ?_
  rintro x w5 ⟨va, rfl, ha, hb5⟩
  obtain ⟨Aa, ca, hv, hs5⟩ := ha.reads
  have hv : va = .slice Aa 2 ca := hv
  subst hv
  have hs5 : StrsAt w5 w5.heap.size Aa 2 [nA, nX] := hs5
  have hst : Stays (w3.alloc (.cells #[.int .i64 1, .int .i64 0, .int .i64 0, .int .i64 3, .int .i64 (-1), .string ⟨#[]⟩, .int .i64 0, .slice A2 3 c2] 28)) w5 := hb5
  have KC := Lib.hid (K34.out.stays hst)
  have KR := Lib.hid (K4.out.stays hst)
  have L5 := Lib.hid ((L4.out.below hst).more hst.size)
  have D5 := Lib.hid ((D4.out.below hst).more hst.size)
  have B5 := Lib.hid (B4.out.trans (hst.mono B4.out.size))
  have S5 := Lib.hid hs5
  clear hst hb5 ha hs5 N4 L4 D4 K4 K34 B4 c3
  go_wp2_with fail
  refine wp_region_free 5 [] Stays (fun | 3 => some fun v w' => ∃ A c, v = .agg #[.int .i64 1, .int .i64 0, .int .i64 0, .int .i64 3, .int .i64 (-1), .string ⟨#[]⟩, .int .i64 0, .slice A 3 c] ∧ LegsAt w' w'.heap.size A 3 lsB | 4 => some fun v w' => ∃ A c, v = .slice A 2 c ∧ StrsAt w' w'.heap.size A 2 [nB, nX] | _ => none) (by kernel_rfl) (by kernel_rfl) Stays.refl (by simp) (Stays.draw _) Stays.trans ?_ ?_
  · intro j φ v x y hB hp hxy
    split at hB <;> cases hB
    · obtain ⟨A, c, hg, hb⟩ := hp
      exact ⟨A, c, hg, (hb.below hxy).more hxy.size⟩
    · obtain ⟨A, c, hg, hb⟩ := hp
      exact ⟨A, c, hg, (hb.below hxy).more hxy.size⟩
  · apply wpFree_pure rfl rfl
    · intro vs wx hk K hK
      have c3 := fun i => (KC.out.stays hk.1).cell i
      go_simp
      exact hK _ (Stays.refl _)
    intro KK hKK
    go_simp
    refine hKK _ ?_
    clear hKK KK
    apply wpFree_pure rfl rfl
    · intro vs wx hk K hK
      have c3 := fun i => (KC.out.stays hk.1).cell i
      go_simp
      exact hK _ (Stays.refl _)
    intro KK hKK
    go_simp
    refine hKK _ ?_
    clear hKK KK
    apply wpFree_pure rfl rfl
    · intro vs wx hk K hK
      have c3 := fun i => (KR.out.stays hk.1).cell i
      go_simp
      exact hK _ (Stays.refl _)
    intro KK hKK
    go_simp
    refine hKK _ ?_
    clear hKK KK
    refine wpFree_fact rfl ?_ ?_
    · intro vs wx hk K hK
      go_simp
      refine (sent_any ⟨#[97, 100, 116]⟩ ⟨#[]⟩ ⟨#[]⟩ ⟨#[]⟩ ⟨#[]⟩ false 0 0 (some ⟨g, 0, none⟩) 3 3 dsA 1 0 0 3 (-1) 0 ⟨#[]⟩ A2 3 c2 lsA nA ⟨#[]⟩ 5 wx.heap.size wx ((L5.out.below hk.1).more hk.1.size) ((D5.out.below hk.1).more hk.1.size) (Nat.le_refl _) (by simp) (by simp) chainA triesA (Nat.zero_le _)).mono ?_
      rw [lsB_eq, doneB_eq]
      rintro x wy ⟨v, rfl, hown, hby⟩
      obtain ⟨A3, c3, hv, hl⟩ := hown.reads
      have hv : v = .slice A3 3 c3 := hv
      subst hv
      exact ⟨_, rfl, hK _ _ hby ⟨A3, c3, rfl, hl⟩⟩
    intro KK hKK
    go_simp
    refine hKK _ ?_
    clear hKK KK
    refine wpFree_fact rfl ?_ ?_
    · intro vs wx hk K hK
      obtain ⟨A3, c3, hv, hl⟩ := hk.2 3 _ rfl (by kernel_rfl)
      go_simp
      refine (next_any 1 0 0 3 (-1) 0 ⟨#[]⟩ A3 3 c3 lsB ⟨#[97, 100, 116]⟩ ⟨#[]⟩ ⟨#[]⟩ ⟨#[]⟩ ⟨#[]⟩ false 0 0 (some ⟨g, 0, none⟩) 3 3 dsA _ wx hl ((D5.out.below hk.1).more hk.1.size) (Nat.le_refl _) (by simp [maxLen]) (by simp) chainA).mono ?_
      rw [nextB_eq]
      rintro x wy ⟨v, rfl, hown, hby⟩
      obtain ⟨A4, c4, hv, hl⟩ := hown.reads
      have hv : v = .slice A4 2 c4 := hv
      subst hv
      exact ⟨_, rfl, hK _ _ hby ⟨A4, c4, rfl, hl⟩⟩
    intro KK hKK
    go_simp
    refine hKK _ ?_
    clear hKK KK
    refine wpFree_nil ?_
    intro vs w6 hs6 hf6
    obtain ⟨A4, c4, hg, hs4⟩ := hf6 4 _ (by omega) rfl
    obtain ⟨ad1, s1, e1, -, h1, c1⟩ := S5.out.in_ (k := 1) (by omega)
    cases h1
    subst e1
    obtain ⟨ad2, s2, e2, hlt2, h2, c2'⟩ := hs4.in_ (k := 0) (by omega)
    cases h2
    subst e2
    obtain ⟨ad1', s1', e1', hlt1, -, -⟩ := S5.out.in_ (k := 1) (by omega)
    cases e1'
    have c1 : w6.cell? ⟨ad1.block, ad1.off + 1, none⟩ = some (.string ⟨#[120]⟩) := (hs6.cell (p := ad1.add 1) (by rw [block_of_add]; exact hlt1)).trans c1
    have c2' : w6.cell? ad2 = some (.string ⟨#[98]⟩) := c2'
    have c5 := fun i => (KC.out.stays hs6).cell i
    have c6 := fun i => (KR.out.stays hs6).cell i
    have L6 := Lib.hid ((L5.out.below hs6).more hs6.size)
    have B6 := Lib.hid (B5.out.trans (hs6.mono B5.out.size))
    intro KK hKK
    rw [hg]
    clear hf6 hs6 hs4
    simp only [List.drop_succ_cons, List.drop_zero]
    go_wp2_with fail
    refine (forward_any 1 0 0 3 (-1) 0 ⟨#[]⟩ A2 3 c2 lsA 1 0 0 3 (-1) 0 ⟨#[]⟩ A2 3 c2 lsA w6.heap.size w6 L6.out L6.out (Nat.le_refl _) (by simp [maxLen]) (by simp [maxLen]) statA statA).mono ?_
    rw [fwdA_eq]
    rintro x w7 ⟨rfl, hb7⟩
    have B7 := Lib.hid (B6.out.trans (hb7.mono B6.out.size))
    go_wp2
    go_ret
    exact ⟨rfl, B7.out⟩
end Go.Proofs.YtemjipongehjlaaGreat
/- What the reference's leg, at and open return. -/
namespace Go.Proofs.YtemjipongehjlaaGreat
set_option linter.unusedVariables false
open Go.RowKit Go.BigFrame
namespace P
/-- Is the leg at a place open? -/
def openI (ls : List Leg) (k : Int) : Bool := if k < 0 then false else match ls[k.toNat]? with | some l => l.isOpen | none => false
theorem openI_neg {ls : List Leg} {k : Int} (h : k < 0) : openI ls k = false := by unfold openI; rw [if_pos h]
theorem openI_at {ls : List Leg} {i : Nat} {l : Leg} (h : ls[i]? = some l) : openI ls (i : Int) = l.isOpen := by
  unfold openI
  rw [if_neg (by omega), show ((i : Int)).toNat = i by omega, h]
theorem legI_lt {ls : List Leg} {name : ByteArray} : legI ls name < (ls.length : Int) ∧ -1 ≤ legI ls name := by
  rcases legI_cases ls name with ⟨_, h⟩ | ⟨j, l, _, h, hj, _, _⟩
  · rw [h]; omega
  · rw [h]; omega
end P
set_option maxRecDepth 100000 in
set_option maxHeartbeats 1000000 in
theorem refLeg_any (id run tm st dn flt : Int) (raw : ByteArray) (A : Option Addr) (m cp : Nat) (ls : List P.Leg) (name : ByteArray) (B : Nat) (w : World) (h : LegsAt w B A m ls) (hB : B ≤ w.heap.size) (hm : m ≤ maxLen) :
    Calls Tryz.prog 40 #[.agg #[.int .i64 id, .int .i64 run, .int .i64 tm, .int .i64 st, .int .i64 dn, .string raw, .int .i64 flt, .slice A m cp], .string name] w fun x w' => x = .returned (.int .i64 (P.legI ls name)) ∧ Below w.heap.size w w' := by
  unfold maxLen at hm
  have hbel := (Below.refl w.heap.size w).alloc (Nat.le_refl _) (.cells #[.int .i64 id, .int .i64 run, .int .i64 tm, .int .i64 st, .int .i64 dn, .string raw, .int .i64 flt, .slice A m cp] 28)
  have k0 := Blk.new w 28 #[.int .i64 id, .int .i64 run, .int .i64 tm, .int .i64 st, .int .i64 dn, .string raw, .int .i64 flt, .slice A m cp]
  have H := Lib.hid h
  have BB := Lib.hid hbel
  have K0 := Lib.hid k0
  clear h hbel k0
  go_enter Tryz.func40, Tryz.ntmps40
  go_wp2_with fail
  go_loopw [5] (fun x wr => ∃ k : Nat, k ≤ m ∧ x = .int .i64 k ∧ (∀ j l, j < k → ls[j]? = some l → (l.name.toList == name.toList) = false) ∧ Below (w.heap.size + 1) (w.alloc (.cells #[.int .i64 id, .int .i64 run, .int .i64 tm, .int .i64 st, .int .i64 dn, .string raw, .int .i64 flt, .slice A m cp] 28)) wr) (fun x _ => m - (intOf x).toNat)
  case atStart => exact ⟨0, by omega, rfl, fun j l hj => by omega, Below.refl _ _⟩
  case round =>
    obtain ⟨k, hk, rfl, hno, hbel⟩ := hrel
    have Hno := Lib.hid hno
    have BW := Lib.hid (BB.out.trans (hbel.mono (by omega)))
    have HB := Lib.hid hbel
    have c0 := fun i => (K0.out.below hbel (by omega)).cell i
    clear hno hbel
    by_cases hlt : k < m
    · have t1 : decide ((k : Int) < (m : Int)) = true := by simp; omega
      obtain ⟨ad, l, rfl, hb, hl, l0, l1, l2, l3, l4, l5⟩ := (H.out.below (BW.out.mono hB)).in_ hlt
      have HL := Lib.hid hl
      clear hl
      cases ht : (l.name.toList == name.toList)
      · have HN := Lib.hid (show ∀ j l, j < k + 1 → ls[j]? = some l → (l.name.toList == name.toList) = false from fun j l2 hj hl2 => by
          rcases Nat.lt_or_ge j k with h1 | h1
          · exact Hno.out j l2 h1 hl2
          · have : j = k := by omega
            subst this
            rw [HL.out] at hl2
            cases hl2
            exact ht)
        go_wp2
        go_roundw
        case rel => exact ⟨k + 1, by omega, by go_num, HN.out, HB.out⟩
        case measure => simp [intOf]; omega
      · have HT := Lib.hid (show P.legI ls name = (k : Int) from by unfold P.legI; rw [P.legAt_some HL.out ht Hno.out])
        go_wp2
        go_ret
        rw [HT.out]
        exact ⟨rfl, BW.out⟩
    · have t1 : decide ((k : Int) < (m : Int)) = false := by simp; omega
      have HT := Lib.hid (show P.legI ls name = -1 from by unfold P.legI; rw [P.legAt_none (fun j l hj hl => Hno.out j l (by have := H.out.len; omega) hl)])
      go_wp2
      go_ret
      rw [HT.out]
      exact ⟨rfl, BW.out⟩
set_option maxRecDepth 100000 in
set_option maxHeartbeats 1000000 in
theorem at_any (cn cd cpre cfil ctr : ByteArray) (cf : Bool) (cpt crt : Int) (D : Option Addr) (n dc : Nat) (ds : List P.Dest) (name : ByteArray) (B : Nat) (w : World) (h : DestsAt w B D n ds) (hB : B ≤ w.heap.size) (hm : n ≤ maxLen) :
    Calls Tryz.prog 45 #[.agg #[.string cn, .bool cf, .int .i64 cpt, .string cd, .string cpre, .string cfil, .string ctr, .slice D n dc, .int .i64 crt], .string name] w fun x w' => x = .returned (.int .i64 (P.destI ds name)) ∧ Below w.heap.size w w' := by
  unfold maxLen at hm
  have hbel := (Below.refl w.heap.size w).alloc (Nat.le_refl _) (.cells #[.string cn, .bool cf, .int .i64 cpt, .string cd, .string cpre, .string cfil, .string ctr, .slice D n dc, .int .i64 crt] 24)
  have k0 := Blk.new w 24 #[.string cn, .bool cf, .int .i64 cpt, .string cd, .string cpre, .string cfil, .string ctr, .slice D n dc, .int .i64 crt]
  have H := Lib.hid h
  have BB := Lib.hid hbel
  have K0 := Lib.hid k0
  clear h hbel k0
  go_enter Tryz.func45, Tryz.ntmps45
  go_wp2_with fail
  go_loopw [5] (fun x wr => ∃ k : Nat, k ≤ n ∧ x = .int .i64 k ∧ (∀ j l, j < k → ds[j]? = some l → (l.name.toList == name.toList) = false) ∧ Below (w.heap.size + 1) (w.alloc (.cells #[.string cn, .bool cf, .int .i64 cpt, .string cd, .string cpre, .string cfil, .string ctr, .slice D n dc, .int .i64 crt] 24)) wr) (fun x _ => n - (intOf x).toNat)
  case atStart => exact ⟨0, by omega, rfl, fun j l hj => by omega, Below.refl _ _⟩
  case round =>
    obtain ⟨k, hk, rfl, hno, hbel⟩ := hrel
    have Hno := Lib.hid hno
    have BW := Lib.hid (BB.out.trans (hbel.mono (by omega)))
    have HB := Lib.hid hbel
    have c0 := fun i => (K0.out.below hbel (by omega)).cell i
    clear hno hbel
    by_cases hlt : k < n
    · have t1 : decide ((k : Int) < (n : Int)) = true := by simp; omega
      obtain ⟨ad, l, rfl, hb, hl, l0, l1, l2, l3, l4, l5, l6, l7, l8⟩ := (H.out.below (BW.out.mono hB)).in_ hlt
      have HL := Lib.hid hl
      clear hl
      cases ht : (l.name.toList == name.toList)
      · have HN := Lib.hid (show ∀ j l, j < k + 1 → ds[j]? = some l → (l.name.toList == name.toList) = false from fun j l2 hj hl2 => by
          rcases Nat.lt_or_ge j k with h1 | h1
          · exact Hno.out j l2 h1 hl2
          · have : j = k := by omega
            subst this
            rw [HL.out] at hl2
            cases hl2
            exact ht)
        go_wp2
        go_roundw
        case rel => exact ⟨k + 1, by omega, by go_num, HN.out, HB.out⟩
        case measure => simp [intOf]; omega
      · have HT := Lib.hid (show P.destI ds name = (k : Int) from by unfold P.destI; rw [P.destAt_some HL.out ht Hno.out])
        go_wp2
        go_ret
        rw [HT.out]
        exact ⟨rfl, BW.out⟩
    · have t1 : decide ((k : Int) < (n : Int)) = false := by simp; omega
      have HT := Lib.hid (show P.destI ds name = -1 from by unfold P.destI; rw [P.destAt_none (fun j l hj hl => Hno.out j l (by have := H.out.len; omega) hl)])
      go_wp2
      go_ret
      rw [HT.out]
      exact ⟨rfl, BW.out⟩
set_option maxRecDepth 100000 in
set_option maxHeartbeats 1000000 in
theorem refOpen_any (id run tm st dn flt : Int) (raw : ByteArray) (A : Option Addr) (m cp : Nat) (ls : List P.Leg) (k : Int) (B : Nat) (w : World) (h : LegsAt w B A m ls) (hB : B ≤ w.heap.size) (hm : m ≤ maxLen) (hk : k < (m : Int)) (hk1 : -1 ≤ k) :
    Calls Tryz.prog 39 #[.agg #[.int .i64 id, .int .i64 run, .int .i64 tm, .int .i64 st, .int .i64 dn, .string raw, .int .i64 flt, .slice A m cp], .int .i64 k] w fun x w' => x = .returned (.bool (P.openI ls k)) ∧ Below w.heap.size w w' := by
  unfold maxLen at hm
  have hbel := (Below.refl w.heap.size w).alloc (Nat.le_refl _) (.cells #[.int .i64 id, .int .i64 run, .int .i64 tm, .int .i64 st, .int .i64 dn, .string raw, .int .i64 flt, .slice A m cp] 28)
  have k0 := Blk.new w 28 #[.int .i64 id, .int .i64 run, .int .i64 tm, .int .i64 st, .int .i64 dn, .string raw, .int .i64 flt, .slice A m cp]
  have BB := Lib.hid hbel
  have c0 := fun i => k0.cell i
  by_cases h0 : k < 0
  · have t1 : decide (0 ≤ k) = false := by simp; omega
    rw [P.openI_neg h0]
    clear h0 h hbel k0
    go_enter Tryz.func39, Tryz.ntmps39
    go_wp2
    go_ret
    exact ⟨rfl, BB.out⟩
  · obtain ⟨i, rfl⟩ : ∃ i : Nat, k = (i : Int) := ⟨k.toNat, by omega⟩
    have t1 : decide ((0 : Int) ≤ (i : Int)) = true := by simp
    have hlt : i < m := by omega
    obtain ⟨ad, l, rfl, hb, hl, l0, l1, l2, l3, l4, l5⟩ := (h.below (hbel.mono hB)).in_ hlt
    rw [P.openI_at hl]
    clear h0 h hbel k0 hl
    rcases P.open_key l with ⟨ho, t4 | ⟨t4, t5⟩⟩ | ⟨ho, t4, t5⟩
    all_goals
      rw [ho]
      clear ho
      go_enter Tryz.func39, Tryz.ntmps39
      go_wp2
      go_ret
      exact ⟨rfl, BB.out⟩
end Go.Proofs.YtemjipongehjlaaGreat
/- What may go next, as the reference tells it. No Go in sight. -/
namespace Go.Proofs.YtemjipongehjlaaGreat.P
set_option linter.unusedVariables false
/-- Is a destination's leg open? -/
def openOf (ls : List Leg) (d : Dest) : Bool := openI ls (legI ls d.name)
/-- May a destination be next, as far as the first j ones say? -/
def mayR (ds : List Dest) (ls : List Leg) (j : Nat) (d : Dest) : Bool :=
  openOf ls d && !((List.range j).any fun j => match ds[j]? with | some e => e.chain == d.chain && openOf ls e | none => false)
theorem mayR_zero (ds : List Dest) (ls : List Leg) (d : Dest) : mayR ds ls 0 d = openOf ls d := by simp [mayR]
theorem mayR_step {ds : List Dest} {ls : List Leg} {j : Nat} {d e : Dest} (he : ds[j]? = some e) : mayR ds ls (j + 1) d = (mayR ds ls j d && !(e.chain == d.chain && openOf ls e)) := by
  unfold mayR
  rw [List.range_succ, List.any_append]
  simp only [List.any_cons, List.any_nil, Bool.or_false, he, Bool.not_or, Bool.and_assoc]
def fromR (ds : List Dest) (ls : List Leg) : Nat → Nat → List ByteArray
  | 0, _ => []
  | f + 1, k => match ds[k]? with
    | some d => if mayR ds ls k d = true then d.name :: fromR ds ls f (k + 1) else fromR ds ls f (k + 1)
    | none => []
def BusyR (ds : List Dest) (ls : List Leg) (k : Nat) (busy : List Int) : Prop :=
  ∀ c, busy.contains c = (List.range k).any fun j => match ds[j]? with | some e => e.chain == c && openOf ls e | none => false
theorem nextGo_of {ls : List Leg} {d : Dest} {ds : List Dest} {busy : List Int} : nextGo ls (d :: ds) busy = if openOf ls d = true then (if busy.contains d.chain = true then nextGo ls ds (d.chain :: busy) else d.name :: nextGo ls ds (d.chain :: busy)) else nextGo ls ds busy := by
  unfold openOf
  rcases legI_cases ls d.name with ⟨h1, h2⟩ | ⟨j, l, h1, h2, hj, hl, _⟩
  · rw [nextGo_skip0 h1, h2, openI_neg (by omega), if_neg (by simp)]
  · rw [h2, openI_at hl]
    cases ho : l.isOpen
    · rw [nextGo_skip1 h1 hl ho, if_neg (by simp)]
    · rw [if_pos rfl]
      cases hb : busy.contains d.chain
      · rw [nextGo_take h1 hl ho hb, if_neg (by simp)]
      · rw [nextGo_busy h1 hl ho hb, if_pos rfl]
theorem nextGo_fromR {ds : List Dest} {ls : List Leg} : ∀ (f k : Nat) (busy : List Int), k + f = ds.length → BusyR ds ls k busy → nextGo ls (ds.drop k) busy = fromR ds ls f k
  | 0, k, busy, hk, hb => by
    rw [List.drop_eq_nil_of_le (by omega)]
    rfl
  | f + 1, k, busy, hk, hb => by
    have hkd : k < ds.length := by omega
    have hd : ds[k]? = some ds[k] := List.getElem?_eq_getElem hkd
    rw [List.drop_eq_getElem_cons hkd, nextGo_of, fromR, hd]
    simp only
    have hbc := hb ds[k].chain
    cases ho : openOf ls ds[k]
    · have hb' : BusyR ds ls (k + 1) busy := fun c => by
        rw [List.range_succ, List.any_append, ← hb c]
        simp [hd, ho]
      rw [if_neg (by simp), nextGo_fromR f (k + 1) _ (by omega) hb']
      unfold mayR
      rw [ho]
      simp
    · have hb' : BusyR ds ls (k + 1) (ds[k].chain :: busy) := fun c => by
        rw [List.range_succ, List.any_append, ← hb c]
        simp only [List.any_cons, List.any_nil, Bool.or_false, hd, ho, Bool.and_true, List.contains_cons]
        rw [Bool.or_comm]
        congr 1
        exact Bool.beq_comm
      rw [if_pos rfl, nextGo_fromR f (k + 1) _ (by omega) hb']
      unfold mayR
      rw [← hbc, ho]
      cases busy.contains ds[k].chain <;> simp
theorem nextGo_ref (ds : List Dest) (ls : List Leg) : nextGo ls ds [] = fromR ds ls ds.length 0 := by
  have := nextGo_fromR (ds := ds) (ls := ls) ds.length 0 [] (by omega) (fun c => by simp)
  simpa using this
end Go.Proofs.YtemjipongehjlaaGreat.P
