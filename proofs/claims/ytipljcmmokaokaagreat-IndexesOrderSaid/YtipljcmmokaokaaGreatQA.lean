import Derived.Test.YtipljcmmokaokaaGreatBase
import Derived.Below
import Derived.Laws.Rows
import Derived.Lib.Hide
set_option linter.unusedVariables false
namespace Go.Proofs.YtipljcmmokaokaaGreat
open Go.RowKit Go.Lib
theorem aa{p:Prop}(h:p):RowKit.Hid p:=Lib.hid h
theorem ae{α:Type _}{a:α}{l:List α}:a∈a::l:=List.mem_cons_self
theorem af{α:Type _}(y:α){a:α}{l:List α}(h:a∈l):a∈y::l:=List.mem_cons_of_mem y h
theorem ag(w:World)(g j:Nat)(cs:Array Value)(t:TypeId)(fr:Nat×Nat)(hg:w.heap[g]?=some (.cells cs t fr)):w.cell? ⟨g,j,none⟩=cs[j]?:=cell_of_row w g j cs t fr hg
theorem ah{α:Type _}{xs:Array α}{i:Nat}{b:α}(h:xs[i]?=some b):∃h:i<xs.size,xs[i]=b:=Array.getElem?_eq_some_iff.1 h
theorem ai(B:Nat)(w:World):RowKit.Below B w w:=RowKit.Below.refl B w
theorem aj(n:Nat):n≤n:=Nat.le_refl n
theorem ak{α:Type _}{a b:α}{l:List α}(h:a∈b::l):a=b∨a∈l:=List.mem_cons.1 h
theorem aq{n m k:Nat}(h:n<m)(h2:m≤k):n<k:=Nat.lt_of_lt_of_le h h2
theorem au{n m k:Nat}(h:n≤m)(h2:m≤k):n≤k:=Nat.le_trans h h2
end Go.Proofs.YtipljcmmokaokaaGreat
