import Derived.Test.YtkpfabigipedcaaGreatVWords
namespace Go.V
/-- what a map holds at a key -/
def mget {V : Type} : List (List Int × V) → List Int → Option V
  | [], _ => none
  | p :: l, k => if p.1 = k then some p.2 else mget l k
def mput {V : Type} : List (List Int × V) → List Int → V → List (List Int × V)
  | [], k, v => [(k, v)]
  | p :: l, k, v => if p.1 = k then (k, v) :: l else p :: mput l k v
end Go.V
