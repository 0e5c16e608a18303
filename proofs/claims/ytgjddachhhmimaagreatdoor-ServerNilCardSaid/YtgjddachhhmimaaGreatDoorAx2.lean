import Derived.Test.YtgjddachhhmimaaGreatDoorAx1
import Derived.Lib.Index
set_option linter.unusedVariables false
set_option linter.unusedSimpArgs false
namespace Go.Proofs.YtgjddachhhmimaaGreatDoor.Ax
/-- (*strings.Builder).copyCheck -/
noncomputable def primCheck (N tC : Nat) (args : List Value) (h : AH) : Option (Value × AH) :=
  match args with
  | [.pointer (some b)] => match h.get b.block with
    | .cells [p, s] t (0, 0) true =>
      if b.off = 0 ∧ b.spot.isNone ∧ N ≤ b.block ∧ t = tC then
        match p with
        | .pointer none => some (.tuple #[], h.set b.block (.cells [.pointer (some b), s] t (0, 0) true))
        | .pointer (some q) => if q = b then some (.tuple #[], h) else none
        | _ => none
      else none
    | _ => none
  | _ => none
def bytesIn : List Value → Option (List UInt8)
  | [] => some []
  | .int .u8 n :: r => if 0 ≤ n ∧ n < 256 then (bytesIn r).bind fun l => some (UInt8.ofNat n.toNat :: l) else none
  | _ => none
/-- (*strings.Builder).String; tB: the type of bytes. -/
noncomputable def primString (N tB : Nat) (args : List Value) (h : AH) : Option (Value × AH) :=
  match args with
  | [.pointer (some b)] => match h.get b.block with
    | .cells [_, s] _ _ true =>
      if b.off = 0 ∧ b.spot.isNone ∧ N ≤ b.block then
        match s with
        | .slice none 0 _ => some (.string ⟨#[]⟩, h)
        | .slice (some a) len c =>
          if a.off = 0 ∧ a.spot.isNone ∧ N ≤ a.block ∧ c ≠ capX ∧ 1 ≤ len ∧ 1 ≤ c then
            match h.get a.block with
            | .cells cs t fz ex =>
              if fz.1 = 0 ∧ len ≤ cs.length ∧ t = tB ∧ len ≤ 9223372036854775807 then
                (bytesIn (cs.take len)).bind fun l => some (.string ⟨⟨l⟩⟩, h.set a.block (.cells cs t (0, max fz.2 len) ex))
              else none
            | _ => none
          else none
        | _ => none
      else none
    | _ => none
  | _ => none
/-- errors.As at an error of the make ⟨text, iface status n⟩ behind a pointer of the type tE, and a target of the type tP, a pointer to tS. -/
noncomputable def primAs (N tE tP tS : Nat) (args : List Value) (h : AH) : Option (Value × AH) :=
  match args with
  | [.iface e (.pointer (some g)), .iface p (.pointer (some q))] =>
    if e = tE ∧ p = tP ∧ g.off = 0 ∧ g.spot.isNone ∧ q.off = 0 ∧ q.spot.isNone ∧ N ≤ g.block ∧ N ≤ q.block then
      match h.get g.block, h.get q.block with
      | .cells [_, .iface s (.int .i64 n)] _ _ _, .cells [_] t (0, 0) true =>
        if s = tS then some (.bool true, h.set q.block (.cells [.int .i64 n] t (0, 0) true)) else none
      | _, _ => none
    else none
  | _ => none
/-- internal/stringslite.Index -/
noncomputable def primIndex (args : List Value) (h : AH) : Option (Value × AH) :=
  match args with
  | [.string s, .string t] => if s.size < 4294967281 then some (.int .i64 (Go.Lib.index s.data.toList t.data.toList), h) else none
  | _ => none
end Go.Proofs.YtgjddachhhmimaaGreatDoor.Ax
