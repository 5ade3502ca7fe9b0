/- The queue's operations as plain mathematics: what each action does to the words and to the operation. -/
import Derived.WalkKit
namespace Go.Proofs.YthkmknnajbpjfaaDoor
namespace M
/-- An operation under way: its kind (1 put, 2 take, 3 length), its number, the phase, the place, what was seen, whether it has ended, its answer. -/
structure Pn where
  k : Int
  x : Int
  ph : Nat
  pl : Int
  sv : Int
  dn : Bool
  aAt : Int
  aX : Int
  why : Int
/-- What an action did. -/
structure Dd where
  k : Int
  c : Nat
  saw : Int
  put : Int
  ok : Bool
def w64 (n : Int) : Int := IntKind.u64.wrap n
def tcell (size : Nat) (pl : Int) : Nat := 2 + 2 * (pl % size).toNat
def ecell (k : Int) : Nat := if k = 1 then 0 else 1
def far (k : Int) : Int := if k = 1 then 0 else 1
def step (size : Nat) (l : List Int) (p : Pn) : List Int × Pn × Dd :=
  if p.dn then (l, p, ⟨0, 0, 0, 0, false⟩)
  else if p.k = 3 then
    if p.ph = 0 then (l, { p with ph := 1, pl := l.getD 1 0 }, ⟨1, 1, l.getD 1 0, l.getD 1 0, true⟩)
    else (l, { p with dn := true, aAt := 0, aX := min (w64 (l.getD 0 0 - p.pl)) size }, ⟨1, 0, l.getD 0 0, l.getD 0 0, true⟩)
  else match p.ph with
  | 0 => (l, { p with ph := 1, pl := l.getD (ecell p.k) 0 }, ⟨1, ecell p.k, l.getD (ecell p.k) 0, l.getD (ecell p.k) 0, true⟩)
  | 1 =>
    let s := l.getD (tcell size p.pl) 0
    (l, if s < w64 (p.pl + far p.k) then { p with dn := true, why := if p.k = 1 then 51 else 110 } else if w64 (p.pl + far p.k) < s then { p with ph := 0 } else { p with ph := 2 }, ⟨1, tcell size p.pl, s, s, true⟩)
  | 2 =>
    let s := l.getD (ecell p.k) 0
    if s = p.pl then (l.set (ecell p.k) (w64 (p.pl + 1)), { p with ph := 3 }, ⟨5, ecell p.k, s, w64 (p.pl + 1), true⟩)
    else (l, { p with ph := 0 }, ⟨5, ecell p.k, s, s, false⟩)
  | 3 =>
    if p.k = 1 then (l.set (tcell size p.pl + 1) p.x, { p with ph := 4 }, ⟨2, tcell size p.pl + 1, l.getD (tcell size p.pl + 1) 0, p.x, true⟩)
    else (l, { p with ph := 4, sv := l.getD (tcell size p.pl + 1) 0 }, ⟨1, tcell size p.pl + 1, l.getD (tcell size p.pl + 1) 0, l.getD (tcell size p.pl + 1) 0, true⟩)
  | _ =>
    (l.set (tcell size p.pl) (if p.k = 1 then w64 (p.pl + 1) else w64 (p.pl + size)), { p with dn := true, aAt := p.pl, aX := if p.k = 1 then p.x else p.sv }, ⟨2, tcell size p.pl, l.getD (tcell size p.pl) 0, if p.k = 1 then w64 (p.pl + 1) else w64 (p.pl + size), true⟩)
/-- What the last action stores, and what is answered. -/
def lastv (size : Nat) (p : Pn) : Int := if p.k = 1 then w64 (p.pl + 1) else w64 (p.pl + size)
def lastx (p : Pn) : Int := if p.k = 1 then p.x else p.sv
/-- What is held of an operation at every time. -/
structure Ok (p : Pn) : Prop where
  k : p.k = 1 ∨ p.k = 2 ∨ p.k = 3
  x : 0 ≤ p.x ∧ p.x < 18446744073709551616
  pl : 0 ≤ p.pl ∧ p.pl < 18446744073709551616
  ph : p.ph ≤ 4
  ph3 : p.k = 3 → p.ph ≤ 1
def Words (l : List Int) : Prop := ∀ i, 0 ≤ l.getD i 0 ∧ l.getD i 0 < 18446744073709551616
end M
end Go.Proofs.YthkmknnajbpjfaaDoor
