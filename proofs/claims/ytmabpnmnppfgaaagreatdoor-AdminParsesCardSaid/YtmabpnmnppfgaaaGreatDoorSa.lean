/- Part Sa of the proof: the statement that is proved stands in the text that ends with its name. No conditions beyond the card's. -/
import Derived.Test.YtmabpnmnppfgaaaGreatDoorA9
import GoSem.ClaimDataLaid
import Derived.Test.YtmabpnmnppfgaaaGreatDoorRows
import Derived.ProofKit
import Derived.OpenShut
import Derived.ShutString
import Derived.Below
import Derived.ChangeSame
import Derived.Lib.SmallJoins
import Derived.Deep.Slices
import Derived.Deep.Fields
import Derived.ChangeSlices
import Derived.WideKeyArgs
import Derived.SizedLaws
namespace Go.Proofs.YtmabpnmnppfgaaaGreatDoor
set_option linter.unusedVariables false
open Go.Joins Go.ChangeShapes Go.WideShapes Go.RowKit Go.Deep
theorem below_sameAt {B : Nat} {w w' : World} (h : Below B w w') {p : MemPlace} (hp : p.block < B) : w.sameAt w' p := by
  cases p with
  | cell b off => exact h.cell (p := ⟨b, off, none⟩) hp
  | map b => exact h.block b hp
section
variable {H : Type} {enc : TypeId × Value → H} {P : Program} {w : World} {base : Nat} {spare : Nat → Bool} {held : Bool}
theorem open_agg4_ {r : Reach} {b0 : Nat} {t : TypeId} {f0 f1 f2 f3 : Field} {v : Value} {d : DataW H} {p : List MemPlace} (hs : P.underlying t = some (.struct #[f0, f1, f2, f3])) (hone : oneCellFields P #[f0, f1, f2, f3] = true) (hC : P.cellsOf t = 4)
    (hv : Value.okWide P w r b0 t v) (h : DataW.Trod enc P w base spare held t v d p) :
    ∃ (v0 v1 v2 v3 : Value) (y0 y1 y2 y3 : DataW H × List MemPlace) (n : Nat), v = .agg #[v0, v1, v2, v3] ∧ d = .agg [y0.1, y1.1, y2.1, y3.1] ∧ p = y0.2 ++ (y1.2 ++ (y2.2 ++ y3.2)) ∧
      DataW.trod enc P w base spare held n f0.type [v0] = some y0 ∧ DataW.trod enc P w base spare held n f1.type [v1] = some y1 ∧ DataW.trod enc P w base spare held n f2.type [v2] = some y2 ∧ DataW.trod enc P w base spare held n f3.type [v3] = some y3 := by
  obtain ⟨cs, rfl, hsz⟩ := okWide_struct hs hv
  obtain ⟨l⟩ := cs
  match l, hsz.trans hC with
  | [c0, c1, c2, c3], _ =>
    obtain ⟨fuel, hf⟩ := h
    obtain ⟨xs, n, _, hx, _, hlen, hg⟩ := DataW.trod_struct hs hf
    obtain ⟨o0, k0⟩ := hone_of hone 0 f0 rfl
    obtain ⟨o1, k1⟩ := hone_of hone 1 f1 rfl
    obtain ⟨o2, k2⟩ := hone_of hone 2 f2 rfl
    obtain ⟨o3, k3⟩ := hone_of hone 3 f3 rfl
    match xs, hlen with
    | [y0, y1, y2, y3], _ =>
      simp only [Prod.mk.injEq] at hx
      exact ⟨c0, c1, c2, c3, y0, y1, y2, y3, n, rfl, by simpa using hx.1, by simpa using hx.2, by simpa [Value.cells, o0, k0] using hg 0 f0 rfl, by simpa [Value.cells, o1, k1] using hg 1 f1 rfl, by simpa [Value.cells, o2, k2] using hg 2 f2 rfl, by simpa [Value.cells, o3, k3] using hg 3 f3 rfl⟩
end
theorem trod_string_one {H : Type} {enc : TypeId × Value → H} {P : Program} {w : World} {base : Nat} {spare : Nat → Bool} {held : Bool} {fuel : Nat} {t : TypeId} {v : Value} {x : DataW H × List MemPlace} (ht : P.underlying t = some .string) (h : DataW.trod enc P w base spare held fuel t [v] = some x) : ∃ s : ByteArray, v = .string s ∧ x.1 = .lit (.string s.data.toList) := by
  obtain ⟨n, e, hx, hw⟩ := DataW.trod_string ht h
  simp at e
  exact ⟨n, e, by rw [hx]⟩
set_option maxRecDepth 100000 in
theorem open_step {H : Type} {enc : TypeId × Value → H} {w : World} {base : Nat} {spare : Nat → Bool} {held : Bool} {r : Reach} {b0 : Nat} {v : Value} {d : DataW H} {p : List MemPlace}
    (hv : Value.okWide Tryz.prog w r b0 24 v) (h : DataW.Trod enc Tryz.prog w base spare held 24 v d p) :
    ∃ (word name data : ByteArray) (A : Option Addr) (m c : Nat) (ns : List Int), v = .agg #[.string word, .slice A m c, .string name, .string data] ∧ IntsIn w w.heap.size A m ns ∧ (∀ n ∈ ns, (Lit.int .i64 n).wf = true) ∧ (A = none → m = 0 ∧ c = 0) ∧
      name.data.toList.length ∈ DataW.weights Tryz.prog 24 d ∧ data.data.toList.length ∈ DataW.weights Tryz.prog 24 d := by
  obtain ⟨c0, c1, c2, c3, y0, y1, y2, y3, n, rfl, rfl, rfl, h0, h1, h2, h3⟩ := open_agg4_ Tryz.underlying24 (by kernel_rfl) (by kernel_rfl) hv h
  obtain ⟨word, rfl, e0⟩ := trod_string_one Tryz.underlying9 h0
  obtain ⟨name, rfl, e2⟩ := trod_string_one Tryz.underlying9 h2
  obtain ⟨data, rfl, e3⟩ := trod_string_one Tryz.underlying9 h3
  have k1 : name.data.toList.length ∈ DataW.weights Tryz.prog 24 (.agg [y0.1, y1.1, y2.1, y3.1]) := by
    simp [DataW.weights, DataW.weightsEach, Tryz.underlying24, e2]
  have k2 : data.data.toList.length ∈ DataW.weights Tryz.prog 24 (.agg [y0.1, y1.1, y2.1, y3.1]) := by
    simp [DataW.weights, DataW.weightsEach, Tryz.underlying24, e3]
  rcases open_ints Tryz.underlying22 Tryz.underlying3 (by kernel_rfl) h1 with ⟨e, _⟩ | ⟨a, len, cap, ss, e, hb, hlc, hc, hm, _, hcell, hwf⟩
  · have e := (List.cons.inj e).1
    subst e
    exact ⟨word, name, data, none, 0, 0, [], rfl, ⟨rfl, fun h => absurd h (by omega)⟩, (fun n hn => by cases hn), (fun _ => ⟨rfl, rfl⟩), k1, k2⟩
  · have e := (List.cons.inj e).1
    subst e
    have hle : len ≤ ss.length := by rw [hm]; split <;> omega
    refine ⟨word, name, data, some a, len, cap, ss.take len, rfl, ⟨by simp; omega, fun hn => ⟨a, rfl, ?_, fun j u hu => ?_⟩⟩, fun n hn => hwf n (List.mem_of_mem_take hn), (fun h => by cases h), k1, k2⟩
    · have := World.block_lt_of_cell? w _ (hcell 0 (by omega))
      rwa [block_of_add] at this
    · have hj : j < len := by
        rcases Nat.lt_or_ge j len with h1 | h1
        · exact h1
        · rw [List.getElem?_eq_none (by simp; omega)] at hu; cases hu
      rw [List.getElem?_take, if_pos hj] at hu
      rw [hcell j (by omega), List.getD_eq_getElem?_getD, hu]
      rfl
end Go.Proofs.YtmabpnmnppfgaaaGreatDoor
