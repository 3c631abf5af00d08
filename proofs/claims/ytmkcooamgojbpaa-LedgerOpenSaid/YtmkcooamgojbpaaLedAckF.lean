/- What an acknowledgement comes to, plain; trade and Put likewise. -/
import Derived.Test.YtmkcooamgojbpaaLedDone
namespace Go.Proofs.Ytmkcooamgojbpaa.Ledger
open Go.Proofs.Ytmkcooamgojbpaa.Mp Go.Proofs.Ytmkcooamgojbpaa.Msgs
set_option linter.unusedVariables false

def keyW (m : Msg) : Key := (m.sym, m.wth)
def earlyF (L : Led) (k : Key) : Int := (mget k L.early).getD 0
def oldF (L : Led) (k : Key) : Acc := (mget k L.now).getD acc0
def ackF (L : Led) (m : Msg) : Int × Led :=
  if (mget (keyM m) L.now).isSome = true ∧ ((oldF L (keyM m)).rest ≠ 0 ∨ owesA (oldF L (keyM m)) ≠ 0) then (6, L)
  else if m.wth < earlyF L (keyM m) + m.qty then (9, L)
  else (0, ⟨mput (keyM m) ⟨m.wth, earlyF L (keyM m), 0, m.qty⟩ L.now, mdel (keyM m) L.early, mput m.sym (plusA ((mget m.sym L.aside).getD acc0) (oldF L (keyM m))) L.aside⟩)
def tradeF (L : Led) (m : Msg) : Int × Led :=
  if m.code = 1 then
    (if fillOK L.now m.qty [keyM m] = true then (0, ⟨fillF L.now m.qty [keyM m], mput (keyW m) (earlyF L (keyW m) + m.qty) L.early, L.aside⟩) else (5, L))
  else if keyM m = keyW m then (5, L)
  else if fillOK L.now m.qty [keyM m, keyW m] = true then (0, ⟨fillF L.now m.qty [keyM m, keyW m], L.early, L.aside⟩) else (5, L)
def putF (L : Led) (m : Msg) : Int × Led :=
  if m.kind = 3 then (if takenB m.qty = true then tradeF L m else (9, L))
  else if m.kind = 4 then (if takenB m.qty = true then doneF L m else (9, L))
  else if m.kind = 1 then (if takenB m.qty = true ∧ takenB m.wth = true then ackF L m else (9, L))
  else (0, L)
end Go.Proofs.Ytmkcooamgojbpaa.Ledger
