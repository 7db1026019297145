/- The line of a request: the program's and the reference's. -/
import Derived.Test.YtmocefjnplmibaaGreatDoorRb
import Derived.Test.YtmocefjnplmibaaGreatDoorDn6
namespace Go.Proofs.YtmocefjnplmibaaGreatDoor
open Go Go.Den
set_option maxRecDepth 100000

/-! ### The fields of a line -/

def restF (r : Req) : List S8 :=
  bif r.kind == 1 then [r.ex.name, exwS r.ex.kind, mayS r.ex.alt]
  else bif r.kind == 2 then [r.sp.name, Lib.itoa r.sp.max, Lib.itoa r.sp.ttl, Lib.itoa r.sp.att, mayS r.sp.dead]
  else bif (bif r.kind == 3 then true else r.kind == 4) then [r.bd.exch, r.bd.queue, quoS r.bd.key, truS r.bd.all] ++ r.bd.mtch.map prpS
  else bif r.kind == 5 then [mayS r.name, quoS r.key] ++ mfS r.msg
  else bif r.kind == 6 then [Lib.itoa r.tag, r.name, Lib.itoa r.limit]
  else bif r.kind == 7 then [Lib.itoa r.tag]
  else bif (bif r.kind == 8 then true else r.kind == 9) then [Lib.itoa r.tag, truS r.flag]
  else bif decide (13 ≤ r.kind) then [r.name] else []
def reqF (r : Req) : List S8 := [wordS r.kind, Lib.itoa r.conn, Lib.itoa r.serial] ++ restF r
def reqRes (r : Req) : AV := .tup [str (bif checkE r == 0 then joinS (reqF r) else []), num (checkE r)]

/-! ### The fields are short -/

/-! ### The program -/

end Go.Proofs.YtmocefjnplmibaaGreatDoor
