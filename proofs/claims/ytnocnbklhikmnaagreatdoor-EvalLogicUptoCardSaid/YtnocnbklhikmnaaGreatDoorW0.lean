/- Small words. -/
namespace Go.Proofs
structure Q_ (p:Prop):Prop where o:p
theorem q_ {p:Prop} (h:p):Q_ p:=⟨h⟩
theorem n_ {n:Nat}:n<=n:=Nat.le_refl n
end Go.Proofs
