/- Package tag in plain Lean: names, quotes, an element's text. -/
set_option linter.unusedVariables false
set_option linter.unusedSimpArgs false
namespace Go.Proofs.Ytaidgkmacpiajaa.Tg

inductive El where
  | mk (space name : ByteArray) (attrs : List (ByteArray × ByteArray)) (text : ByteArray) (kids : List El)

namespace El
def space : El → ByteArray | mk s _ _ _ _ => s
def name : El → ByteArray | mk _ n _ _ _ => n
def attrs : El → List (ByteArray × ByteArray) | mk _ _ a _ _ => a
def text : El → ByteArray | mk _ _ _ t _ => t
def kids : El → List El | mk _ _ _ _ k => k
end El

/-- What stands in the place of a byte ('mark'; [] where nothing does). -/
def markL (c : UInt8) : List UInt8 :=
  if ((c.toNat : Int) == 38) then [38, 97, 109, 112, 59]
  else if ((c.toNat : Int) == 60) then [38, 108, 116, 59]
  else if ((c.toNat : Int) == 62) then [38, 103, 116, 59]
  else if ((c.toNat : Int) == 39) then [38, 97, 112, 111, 115, 59]
  else if ((c.toNat : Int) == 34) then [38, 113, 117, 111, 116, 59]
  else if ((c.toNat : Int) == 9) then [38, 35, 120, 57, 59]
  else if ((c.toNat : Int) == 10) then [38, 35, 120, 65, 59]
  else if ((c.toNat : Int) == 13) then [38, 35, 120, 68, 59]
  else []

def quote1 (c : UInt8) : List UInt8 := if markL c = [] then [c] else markL c
def quoteL (l : List UInt8) : List UInt8 := l.flatMap quote1

def attrL (name value : List UInt8) : List UInt8 := [32] ++ name ++ [61, 39] ++ quoteL value ++ [39]

def bl (s : ByteArray) : List UInt8 := s.data.toList

def attrsL : List (ByteArray × ByteArray) → List UInt8
  | [] => []
  | a :: t => attrL (bl a.1) (bl a.2) ++ attrsL t

def xmlns : List UInt8 := [120, 109, 108, 110, 115]

mutual
def putL : El → ByteArray → List UInt8
  | .mk s n as t ks, sp =>
    [60] ++ bl n ++ (if bl s = bl sp then [] else attrL xmlns (bl s)) ++ attrsL as ++
      (if bl t = [] ∧ ks = [] then [47, 62] else [62] ++ quoteL (bl t) ++ putsL ks s ++ [60, 47] ++ bl n ++ [62])
def putsL : List El → ByteArray → List UInt8
  | [], _ => []
  | k :: ks, sp => putL k sp ++ putsL ks sp
end

theorem quote1_size (c : UInt8) : 1 ≤ (quote1 c).length ∧ (quote1 c).length ≤ 6 := by
  unfold quote1 markL
  repeat' split
  all_goals simp_all

end Go.Proofs.Ytaidgkmacpiajaa.Tg
