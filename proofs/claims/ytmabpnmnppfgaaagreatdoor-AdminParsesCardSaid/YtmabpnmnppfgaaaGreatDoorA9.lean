/- Part A9 of the proof: the statement that is proved stands in the text that ends with its name. No conditions beyond the card's. -/
import Derived.Test.YtmabpnmnppfgaaaGreatDoorA6
namespace Go.Proofs.YtmabpnmnppfgaaaGreatDoor
set_option linter.unusedVariables false
open Go Go.RowKit Go.BigFrame
namespace Ad
theorem no_shape {c : Step} (h : shapeF c.word = none) : ¬ ∃ s, Prints c s := by
  rintro ⟨s, sh, h1, -⟩
  rw [h] at h1
  cases h1
theorem no_fit {c : Step} {sh : Shape} (h : shapeF c.word = some sh) (hf : ¬ fits c sh) : ¬ ∃ s, Prints c s := by
  rintro ⟨s, sh', h1, h2, -⟩
  rw [h] at h1
  cases h1
  exact hf h2
theorem out_len {c : Step} {sh : Shape} (h : shapeF c.word = some sh) (hf : fits c sh) : (outF c sh).length ≤ 65536 := by
  obtain ⟨⟨-, -, w3⟩, w4⟩ := shape_word h
  obtain ⟨-, -, -, f4, f5, -⟩ := hf
  have l1 := quote_len c.data
  have l2 := nameW_len c.name
  have l3 := digits_len (c.nums.headD 0)
  unfold outF printW
  generalize P.digits (c.nums.headD 0) = dg at *
  rcases w4 with rfl | rfl | rfl | rfl
  · simp only [if_true, Bool.false_eq_true, if_false, List.append_nil, join2]
    simp
    omega
  · simp only [Bool.false_eq_true, if_false, List.append_nil, join1]
    omega
  · simp only [if_true, Bool.false_eq_true, if_false, List.append_nil, List.nil_append, join2]
    simp
    omega
  · simp only [if_true, Bool.false_eq_true, if_false, List.nil_append, List.singleton_append, join3]
    simp
    omega
end Ad
def PrintOut (c : Ad.Step) (e : Ending) : Prop :=
  (∃ s : ByteArray, Ad.Prints c s.data.toList ∧ e = .returned (.tuple #[.string s, .int .i64 0])) ∨ ((¬ ∃ s, Ad.Prints c s) ∧ ∃ er, er = (100 : Int) ∧ e = .returned (.tuple #[.string ⟨#[]⟩, .int .i64 er]))
def IntsIn (w : World) (B : Nat) (A : Option Addr) (m : Nat) (ns : List Int) : Prop := ns.length = m ∧ (0 < m → ∃ ad, A = some ad ∧ ad.block < B ∧ ∀ (j : Nat) n, ns[j]? = some n → w.cell? (ad.add j) = some (.int .i64 n))
theorem IntsIn.below {w w' : World} {B m : Nat} {A : Option Addr} {ns : List Int} (h : IntsIn w B A m ns) (hb : Below B w w') : IntsIn w' B A m ns := by
  refine ⟨h.1, fun hm => ?_⟩
  obtain ⟨ad, e, hB, hc⟩ := h.2 hm
  exact ⟨ad, e, hB, fun j n hj => (hb.cell (p := ad.add j) (by rw [block_of_add]; exact hB)).trans (hc j n hj)⟩
theorem IntsIn.less {w : World} {B B' m : Nat} {A : Option Addr} {ns : List Int} (h : IntsIn w B A m ns) (hb : B ≤ B') : IntsIn w B' A m ns := by
  refine ⟨h.1, fun hm => ?_⟩
  obtain ⟨ad, e, hB, hc⟩ := h.2 hm
  exact ⟨ad, e, Nat.lt_of_lt_of_le hB hb, hc⟩
def strE : Enc ByteArray := Enc.flat (fun s => [.string s]) 1 (by omega) (fun _ => True) (fun _ => rfl) (fun x u hu => by simp at hu; subst hu; rfl)
theorem strE_R {w : World} {S : Nat → Prop} (x : ByteArray) : strE.R w S [.string x] x := ⟨rfl, trivial⟩
theorem own_one {w : World} {B g : Nat} {x : ByteArray} (h : Blk w g 9 #[.string x]) (hB : B ≤ g) : OwnE strE 9 w B nowhere (.slice (some ⟨g, 0, none⟩) 1 1) [x] := by
  refine ⟨⟨[.string x], ⟨rfl, .inr ⟨g, 1, _, rfl, hB, h, Nat.le_refl _, by unfold maxLen; omega, rfl, rfl⟩⟩, fun j y hy => ?_⟩, fun g hg => (fun h => h.elim), fun b hb => hb.elim⟩
  have hj : j = 0 := by
    have := (List.getElem?_eq_some_iff.1 hy).1
    simp at this
    exact this
  subst hj
  simp at hy
  subst hy
  exact ⟨_, strE_R _, fun i u hu => by simpa [strE, Enc.flat] using hu⟩
theorem infoStr : (Tryz.prog.info? 9).map (fun i => (i.zero, i.size, i.bytes)) = some (some (.string ⟨#[]⟩), 1, 16) := by kernel_rfl
theorem news_str (W : World) (x : ByteArray) (g : Nat) (hg : W.heap.size = g) : ∀ j y, [x][j]? = some y → ∃ es, strE.R (W.alloc (.cells #[.string x] 9)) nowhere es y ∧ ∀ i u, es[i]? = some u → (W.alloc (.cells #[.string x] 9)).cell? ((⟨g, 0, none⟩ : Addr).add (j * strE.n + i)) = some u :=
  hg ▸ news_one (E := strE) (w := W) (S := nowhere) (x := x) (cs := [.string x]) (T' := 9) (strE_R x) (fun b hb => hb.elim)
theorem join_any {w : World} {B : Nat} {v : Value} {xs : List ByteArray} (h : OwnE strE 9 w B nowhere v xs) (hx : xs ≠ []) (hl : xs.length ≤ 1000) (hlen : (Lib.join (xs.map (·.data.toList)) [32]).length ≤ 1000000) :
    Calls Tryz.prog 28 #[v, .string ⟨#[32]⟩] w fun e w' => e = .returned (.string ⟨(Lib.join (xs.map (·.data.toList)) [32]).toArray⟩) ∧ Below w.heap.size w w' := by
  rcases h.form with ⟨-, e⟩ | ⟨g, cap, rfl, hB, hg, hnc, hcm⟩
  · exact absurd e hx
  · obtain ⟨cs, ho, he⟩ := h.row
    refine Tryz.strings_Join g 0 cap xs ⟨#[32]⟩ w (fun j x hj => ?_) hg (by omega) hnc (by show (Lib.join (xs.map (·.data.toList)) [32]).length ≤ _; omega)
    obtain ⟨es, ⟨hr, -⟩, hi⟩ := he j x hj
    subst hr
    have hu := hi 0 _ rfl
    have h1 : strE.n = 1 := rfl
    rw [h1, Nat.mul_one, Nat.add_zero] at hu
    have := World.ownsRow.cells ho (g := g) rfl _ _ hu
    rw [Addr.add_lit] at this
    exact this
end Go.Proofs.YtmabpnmnppfgaaaGreatDoor
