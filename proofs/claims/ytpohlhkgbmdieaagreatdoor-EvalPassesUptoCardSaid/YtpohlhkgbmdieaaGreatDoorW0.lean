/- Small words. -/
namespace Go.Proofs
structure Q_ (p:Prop):Prop where o:p
theorem q_ {p:Prop} (h:p):Q_ p:=⟨h⟩
theorem l_ {a b c:Nat} (h:a<b) (g:b<=c):a<c:=Nat.lt_of_lt_of_le h g
theorem t_ {a b c:Nat} (h:a<=b) (g:b<=c):a<=c:=Nat.le_trans h g
theorem g_ {α:Type} {l:List α} {i:Nat} {a:α} (h:l[i]? =some a):∃h:i<l.length,l[i]=a:=List.getElem?_eq_some_iff.1 h
theorem e_ {α:Type} {l:List α} {i:Nat} (h:i<l.length):l[i]? =some l[i]:=List.getElem?_eq_getElem h
theorem i_ {α:Type} {a b:α} (h:some a=some b):a=b:=Option.some.inj h
theorem m_ {α:Type} {l:List α} {i:Nat} {a:α} (h:l[i]? =some a):a∈l:=List.mem_of_getElem? h
theorem n_ {n:Nat}:n<=n:=Nat.le_refl n
end Go.Proofs
