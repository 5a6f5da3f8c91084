/- What is known of the fields of a word. -/
import Derived.Test.YtfheonbdapkgkaaCpuTypes
namespace Go.Vx
open Go
structure B38 (m38 : Int → Int → Int → Int) : Prop where
  h8 : ∀ w, 0 ≤ m38 w 23 21 ∧ m38 w 23 21 < 8
  h65 : ∀ w, 0 ≤ m38 w 6 5 ∧ m38 w 6 5 < 4
  h22 : ∀ w, 0 ≤ m38 w 22 22 ∧ m38 w 22 22 < 2
  h20 : ∀ w, 0 ≤ m38 w 20 20 ∧ m38 w 20 20 < 2
end Go.Vx
