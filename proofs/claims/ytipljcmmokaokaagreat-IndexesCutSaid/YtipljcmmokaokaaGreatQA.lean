import Derived.Test.YtipljcmmokaokaaGreatBase
import Derived.Below
import Derived.Laws.Rows
import Derived.Lib.Hide
set_option linter.unusedVariables false
namespace Go.Proofs.YtipljcmmokaokaaGreat
open Go.RowKit Go.Lib
def aa(p:Prop):Prop:=p
theorem aa.o{p:Prop}(h:aa p):p:=h
theorem ae{p:Prop}(h:p):aa p:=h
theorem af{α:Type _}{a:α}{l:List α}:a∈a::l:=List.mem_cons_self
theorem ag{α:Type _}(y:α){a:α}{l:List α}(h:a∈l):a∈y::l:=List.mem_cons_of_mem y h
theorem ah(w:World)(g j:Nat)(cs:Array Value)(t:TypeId)(fr:Nat×Nat)(hg:w.heap[g]?=some (.cells cs t fr)):w.cell? ⟨g,j,none⟩=cs[j]?:=cell_of_row w g j cs t fr hg
theorem ai{α:Type _}{xs:Array α}{i:Nat}{b:α}(h:xs[i]?=some b):∃h:i<xs.size,xs[i]=b:=Array.getElem?_eq_some_iff.1 h
theorem aj(w:World)(g:Nat){cs:Array Value}{t:TypeId}{fr:Nat×Nat}(hg:w.heap[g]?=some (.cells cs t fr))(j:Nat):w.cell? ⟨g,j,none⟩=cs[j]?:=cell_of_row w g j cs t fr hg
theorem ak(B:Nat)(w:World):RowKit.Below B w w:=RowKit.Below.refl B w
theorem aq(n:Nat):n≤n:=Nat.le_refl n
theorem au{α:Type _}{a b:α}{l:List α}(h:a∈b::l):a=b∨a∈l:=List.mem_cons.1 h
theorem av{n m k:Nat}(h:n<m)(h2:m≤k):n<k:=Nat.lt_of_lt_of_le h h2
theorem aw{n m k:Nat}(h:n≤m)(h2:m≤k):n≤k:=Nat.le_trans h h2
end Go.Proofs.YtipljcmmokaokaaGreat
