/- Short names of an operation's edges. Conditions: none. -/
import Derived.Test.YtklhmlplabkoeaaRg
namespace Go.Bst
abbrev eD (n : Nat) : Edge := { on := n, ground := Ground.data }
abbrev eP (n : Nat) : Edge := { on := n, ground := Ground.phase }
abbrev eG (n : Nat) : Edge := { on := n, ground := Ground.guard }
abbrev eC (n : Nat) : Edge := { on := n, ground := Ground.chain }
end Go.Bst
