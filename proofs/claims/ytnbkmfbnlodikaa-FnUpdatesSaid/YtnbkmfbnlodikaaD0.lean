/-
Where the rows of places and numbers lie in this seat.
No condition.
-/
import Derived.Test.YtnbkmfbnlodikaaE7
import Derived.Test.YtnbkmfbnlodikaaVW
