/- What clock.Due returns. -/
import Derived.Test.YtjbhlojfmcldjabFail1
namespace Go.Proofs.Ytjbhlojfmcldjab
set_option linter.unusedVariables false
open Go.RowKit Go.BigFrame
namespace P
/-- When the next try is due. -/
def dueAt (now backoff tries : Int) : Int := min (min (max now 0) 2147483647 + min (max backoff 0) 2147483647 * 2 ^ (min (max tries 1 - 1) 6).toNat) 2147483647
end P
set_option maxHeartbeats 400000 in
set_option maxRecDepth 20000 in
theorem dueAt_any (now backoff tries : Int) (w : World) (h1 : -9223372036854775808 ≤ now) (h2 : now ≤ 9223372036854775807) (h3 : -9223372036854775808 ≤ backoff) (h4 : backoff ≤ 9223372036854775807) (h5 : -9223372036854775808 ≤ tries) (h6 : tries ≤ 9223372036854775807) :
    Calls Try.prog 29 #[.int .i64 now, .int .i64 backoff, .int .i64 tries] w fun e w' => e = .returned (.int .i64 (P.dueAt now backoff tries)) ∧ w = w' := by
  go_enter Try.func29, Try.ntmps29
  have hb0 : 0 ≤ min (max backoff 0) 2147483647 ∧ min (max backoff 0) 2147483647 ≤ 2147483647 := by omega
  have ha0 : 0 ≤ min (max now 0) 2147483647 ∧ min (max now 0) 2147483647 ≤ 2147483647 := by omega
  have hk : (min (max tries 1 - 1) 6).toNat ≤ 6 := by omega
  have key : 0 ≤ min (max backoff 0) 2147483647 * 2 ^ (min (max tries 1 - 1) 6).toNat ∧ min (max backoff 0) 2147483647 * 2 ^ (min (max tries 1 - 1) 6).toNat ≤ 274877906944 := by
    generalize (min (max tries 1 - 1) 6).toNat = k at *
    generalize min (max backoff 0) 2147483647 = b at *
    rcases (by omega : k = 0 ∨ k = 1 ∨ k = 2 ∨ k = 3 ∨ k = 4 ∨ k = 5 ∨ k = 6) with rfl | rfl | rfl | rfl | rfl | rfl | rfl <;> omega
  have HD := Lib.hid (show min (wrap64 (min (max now 0) 2147483647 + wrap64 (min (max backoff 0) 2147483647 * 2 ^ (min (max tries 1 - 1) 6).toNat))) 2147483647 = P.dueAt now backoff tries from by
    unfold P.dueAt
    rw [IntWalk.wrap64_in (min (max backoff 0) 2147483647 * 2 ^ (min (max tries 1 - 1) 6).toNat) ⟨by omega, by omega⟩, IntWalk.wrap64_in _ ⟨by omega, by omega⟩])
  clear hb0 ha0 hk key
  go_wp2
  go_ret
  rw [← HD.out]
  exact ⟨rfl, rfl⟩
namespace P
/-- What a verdict 'to be tried again' makes of the legs. -/
def triedTurn (now : Int) (ds : List Dest) (ls : List Leg) (k : Nat) (l : Leg) (d : Dest) : List Leg :=
  if d.retry ≠ 0 ∧ d.retry < l.tries then failed ds d (ls.set k { l with status := 4, due := 0 }) else ls.set k { l with status := 2, due := dueAt now d.backoff l.tries }
def failTurn (ds : List Dest) (ls : List Leg) (k : Nat) (l : Leg) (d : Dest) : List Leg := failed ds d (ls.set k { l with status := 4, due := 0 })
theorem triedTurn_key (now : Int) (ds : List Dest) (ls : List Leg) (k : Nat) (l : Leg) (d : Dest) : ((d.retry != 0) = false ∧ triedTurn now ds ls k l d = ls.set k { l with status := 2, due := dueAt now d.backoff l.tries }) ∨ ((d.retry != 0) = true ∧ decide (d.retry < l.tries) = false ∧ triedTurn now ds ls k l d = ls.set k { l with status := 2, due := dueAt now d.backoff l.tries })
    ∨ ((d.retry != 0) = true ∧ decide (d.retry < l.tries) = true ∧ triedTurn now ds ls k l d = failTurn ds ls k l d) := by
  unfold triedTurn failTurn
  by_cases h1 : d.retry = 0
  · exact Or.inl ⟨by simp [h1], by rw [if_neg (fun h => h.1 h1)]⟩
  · by_cases h2 : d.retry < l.tries
    · exact Or.inr (Or.inr ⟨by simpa using h1, by simpa using h2, by rw [if_pos ⟨h1, h2⟩]⟩)
    · exact Or.inr (Or.inl ⟨by simpa using h1, by simpa using h2, by rw [if_neg (fun h => h2 h.2)]⟩)
end P
set_option maxRecDepth 100000 in
set_option maxHeartbeats 4000000 in
theorem tried1_any (cn cd cpre cfil ctr : ByteArray) (cf : Bool) (cpt crt : Int) (D : Option Addr) (n dc : Nat) (ds : List P.Dest) (id run tm st dn flt : Int) (raw : ByteArray) (g m cp k rb cb nb : Nat) (ls : List P.Leg) (l : P.Leg) (d : P.Dest) (now : Int) (Bo B : Nat) (w : World)
    (hd : DestsAt w B D n ds) (hB : B ≤ w.heap.size) (hBg : B ≤ g) (hown : OwnL w Bo (.slice (some ⟨g, 0, none⟩) m cp) ls) (hlen : ls.length = m) (hl : ls[k]? = some l) (hr : Blk w rb 33 #[.int .i64 id, .int .i64 run, .int .i64 tm, .int .i64 st, .int .i64 dn, .string raw, .int .i64 flt, .slice (some ⟨g, 0, none⟩) m cp]) (hne : rb ≠ g) (hg : g < w.heap.size) (hn : n ≤ maxLen) (hm : m ≤ maxLen)
    (hc : Blk w cb 24 #[.string cn, .bool cf, .int .i64 cpt, .string cd, .string cpre, .string cfil, .string ctr, .slice D n dc, .int .i64 crt]) (hnb : Blk w nb 3 #[.int .i64 now]) (hw1 : (Lit.int .i64 now).wf = true) (hw2 : (Lit.int .i64 d.backoff).wf = true) (hw3 : (Lit.int .i64 l.tries).wf = true) :
    Calls Try.prog 28 #[.pointer (some ⟨g, k * 6, none⟩), .agg #[.string d.name, .int .i64 d.chain, .bool d.file, .int .i64 d.port, .string d.dir, .int .i64 d.retry, .int .i64 d.backoff, .int .i64 d.timeout, .string d.response], .pointer (some ⟨rb, 0, none⟩), .pointer (some ⟨cb, 0, none⟩), .pointer (some ⟨nb, 0, none⟩)] w fun e w' => e = .returned (.tuple #[]) ∧ OwnL w' Bo (.slice (some ⟨g, 0, none⟩) m cp) (P.triedTurn now ds ls k l d) ∧ w.grownBy w' (some g) := by
  have hkl : k < ls.length := by
    rcases Nat.lt_or_ge k ls.length with h1 | h1
    · exact h1
    · rw [List.getElem?_eq_none h1] at hl; cases hl
  have b1 := bounds_i64 hw1
  have b2 := bounds_i64 hw2
  have b3 := bounds_i64 hw3
  have hs1 : Stays w (w.alloc (.cells #[.string d.name, .int .i64 d.chain, .bool d.file, .int .i64 d.port, .string d.dir, .int .i64 d.retry, .int .i64 d.backoff, .int .i64 d.timeout, .string d.response] 43)) := Stays.alloc w _
  have kd := Blk.new w 43 #[.string d.name, .int .i64 d.chain, .bool d.file, .int .i64 d.port, .string d.dir, .int .i64 d.retry, .int .i64 d.backoff, .int .i64 d.timeout, .string d.response]
  have FA := Lib.hid (fun W (hW : Stays w W) => fail_any cn cd cpre cfil ctr cf cpt crt D n dc ds id run tm st dn flt raw g m cp k rb ls l d Bo B W (hd.below (hW.mono hB)) (Nat.le_trans hB hW.size) hBg (hown.stays hW) hlen hl (hr.stays hW) hne (Nat.lt_of_lt_of_le hg hW.size) hn hm)
  have S1 := Lib.hid hs1
  have KD := Lib.hid kd
  have KC := Lib.hid hc
  have KN := Lib.hid hnb
  have OW := Lib.hid hown
  have HL := Lib.hid hl
  have LN := Lib.hid hlen
  have c0 := fun i => (hc.stays hs1).cell i
  have c1 := fun i => kd.cell i
  obtain ⟨e0, e1, e2, e3, e4, e5⟩ := (hown.stays hs1).legIn hl
  have DU := Lib.hid (fun W => dueAt_any now d.backoff l.tries W (by omega) (by omega) (by omega) (by omega) (by omega) (by omega))
  clear hd hown hlen hl hr hc hnb hw1 hw2 hw3 hs1 kd b1 b2 b3
  rcases P.triedTurn_key now ds ls k l d with ⟨t1, he⟩ | ⟨t1, t2, he⟩ | ⟨t1, t2, he⟩
  case inr.inr =>
    rw [he, P.failTurn]
    clear he
    go_enter Try.func28, Try.ntmps28
    go_wp2_with fail
    go_quiet (fail)
    go_wp2_with fail
    refine (FA.out _ (below_drewN S1.out _)).mono ?_
    rintro e w2 ⟨rfl, ho, hgr⟩
    have O2 := Lib.hid ho
    have G2 := Lib.hid ((Stays.grown (below_drewN S1.out _) (some g)).trans hgr)
    clear ho hgr
    go_wp2
    try simp only [Exit.inBlock, Exit.then]
    refine bodyPost_ret (results_none rfl _ _ _) rfl ?_
    exact ⟨rfl, O2.out, G2.out⟩
  all_goals
    rw [he]
    clear he
    go_enter Try.func28, Try.ntmps28
    go_wp2_with fail
    go_quiet (fail)
    go_wp2_with fail
    refine wp_region_free 12 [1] Stays (fun _ => none) (by kernel_rfl) (by kernel_rfl) Stays.refl (by simp) (Stays.draw _) Stays.trans (fun j φ v x y hB => by cases hB) ?_
    clear c0 c1 e0 e1 e2 e3 e4 e5
    apply wpFree_pure rfl rfl
    · intro vs wx hk K hK
      go_simp
      exact hK _ (Stays.refl _)
    intro KK hKK
    go_simp
    refine hKK _ ?_
    clear hKK KK
    apply wpFree_late rfl rfl
    · intro vs wx K hK
      go_simp
      exact hK
    intro KK hKK
    go_simp
    refine hKK _ ?_
    clear hKK KK
    apply wpFree_pure rfl rfl
    · intro vs wx hk K hK
      have c0 := fun i => (KN.out.stays (Stays.trans (below_drewN S1.out _) hk.1)).cell i
      go_simp
      exact hK _ (Stays.refl _)
    intro KK hKK
    go_simp
    refine hKK _ ?_
    clear hKK KK
    apply wpFree_pure rfl rfl
    · intro vs wx hk K hK
      go_simp
      exact hK _ (Stays.refl _)
    intro KK hKK
    go_simp
    refine hKK _ ?_
    clear hKK KK
    apply wpFree_pure rfl rfl
    · intro vs wx hk K hK
      have c0 := fun i => (KD.out.stays (Stays.trans (below_drewN (Stays.refl _) _) hk.1)).cell i
      go_simp
      exact hK _ (Stays.refl _)
    intro KK hKK
    go_simp
    refine hKK _ ?_
    clear hKK KK
    apply wpFree_pure rfl rfl
    · intro vs wx hk K hK
      go_simp
      exact hK _ (Stays.refl _)
    intro KK hKK
    go_simp
    refine hKK _ ?_
    clear hKK KK
    apply wpFree_pure rfl rfl
    · intro vs wx hk K hK
      go_simp
      exact hK _ (Stays.refl _)
    intro KK hKK
    go_simp
    refine hKK _ ?_
    clear hKK KK
    apply wpFree_pure rfl rfl
    · intro vs wx hk K hK
      go_simp
      exact hK _ (Stays.refl _)
    intro KK hKK
    go_simp
    refine hKK _ ?_
    clear hKK KK
    apply wpFree_pure rfl rfl
    · intro vs wx hk K hK
      obtain ⟨e0, e1, e2, e3, e4, e5⟩ := (OW.out.stays (Stays.trans (below_drewN S1.out _) hk.1)).legIn HL.out
      go_simp
      exact hK _ (Stays.refl _)
    intro KK hKK
    go_simp
    refine hKK _ ?_
    clear hKK KK
    apply wpFree_pure rfl rfl
    · intro vs wx hk K hK
      go_simp
      first
        | exact hK _ (Stays.refl _)
        | exact Calls.free hK ((DU.out _).mono fun e w' ⟨he, hw'⟩ => ⟨he, hw' ▸ Stays.refl _⟩)
    intro KK hKK
    go_simp
    refine hKK _ ?_
    clear hKK KK
    apply wpFree_pure rfl rfl
    · intro vs wx hk K hK
      go_simp
      exact hK _ (Stays.refl _)
    intro KK hKK
    go_simp
    refine hKK _ ?_
    clear hKK KK
    apply wpFree_pure rfl rfl
    · intro vs wx hk K hK
      go_simp
      exact hK _ (Stays.refl _)
    intro KK hKK
    go_simp
    refine hKK _ ?_
    clear hKK KK
    refine wpFree_nil ?_
    intro vs w6 hs6 _
    intro KK hKK
    simp only [List.drop_succ_cons]
    have s6 : Stays w w6 := Stays.trans (below_drewN S1.out _) hs6
    have S6 := Lib.hid s6
    have hg6 : g < w6.heap.size := Nat.lt_of_lt_of_le hg s6.size
    have O6 := OW.out.stays s6
    obtain ⟨e0, e1, e2, e3, e4, e5⟩ := O6.legIn HL.out
    have fz := fun j => O6.frz LN.out j
    have p1 := O6.put (l' := { l with status := 2 }) (j := 1) (u := .int .i64 2) LN.out HL.out rfl (by omega)
    have p2 := p1.put (l := { l with status := 2 }) (l' := { l with status := 2, due := P.dueAt now d.backoff l.tries }) (j := 3) (u := .int .i64 (P.dueAt now d.backoff l.tries)) (by rw [List.length_set]; exact LN.out) (by rw [List.getElem?_set_self hkl]) rfl (by omega)
    rw [List.set_set] at p2
    have P2 := Lib.hid p2
    have G2 := Lib.hid (((Stays.grown s6 (some g)).trans (grown_set _ g (k * 6 + 1) (.int .i64 2))).trans (grown_set _ g (k * 6 + 3) (.int .i64 (P.dueAt now d.backoff l.tries))))
    clear p1 p2 O6 s6 hs6
    go_wp2
    go_end0
    exact ⟨rfl, P2.out, G2.out⟩
end Go.Proofs.Ytjbhlojfmcldjab
