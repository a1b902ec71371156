/-
  Plain: what a connection's configuration may be. No condition.
-/
import Derived.Test.YtannnhopgdlapaaGreatDoorNuUtf
import Derived.WalkKit
import Derived.Lib.Strings
import Derived.Lib.IndexBytes
namespace Go.Proofs.Nu
open Go Go.RowKit
/-- A text of so many bytes. -/
def txtT (s : ByteArray) (lo hi : Int) : Bool := decide (lo ≤ s.size) && (decide ((s.size : Int) ≤ hi) && decide (utf s < 0))
/-- A name (lo 1), or a secret (lo 0). -/
def mayT (s : ByteArray) (lo : Int) : Bool := decide (lo ≤ s.size) && (decide (s.size ≤ 64) && s.data.toList.all fun x => decide (x.toNat ≠ 0))
def nameO : ByteArray := ⟨#[111, 112, 101, 110]⟩
def nameP : ByteArray := ⟨#[112, 108, 97, 105, 110]⟩
def nameQ : ByteArray := ⟨#[112, 114, 111, 111, 102]⟩
def knownT (s : ByteArray) : Bool := s.toList == nameO.toList || (s.toList == nameP.toList || s.toList == nameQ.toList)
/-- A user: name, secret. -/
abbrev Usr := ByteArray × ByteArray
/-- The users from a place on: each may be, and none bears a name of one ahead of it. -/
def usersOk (us : List Usr) : Bool := decide (us.length ≤ 32) && (List.range us.length).all fun i => match us[i]? with
  | some u => !((us.take i).any fun x => x.1.toList == u.1.toList) && (mayT u.1 1 && mayT u.2 0)
  | none => true
def clientOk (mech : ByteArray) (u : Usr) : Bool := knownT mech && (mech.toList == nameO.toList || (mayT u.1 1 && mayT u.2 0))
structure Cfg where
  id : ByteArray
  host : ByteArray
  server : Bool
  guarded : Bool
  users : List Usr
  seed : Int
  mech : ByteArray
  user : Usr
  maxFrame : Int
  channelMax : Int
  idle : Int
  window : Int
def Cfg.base (c : Cfg) : Bool := txtT c.id 1 64 && (txtT c.host 0 64 && (decide (512 ≤ c.maxFrame) && (decide (c.maxFrame ≤ 1048576) && (decide (0 ≤ c.channelMax) && (decide (c.channelMax ≤ 65535) && (decide (0 ≤ c.idle) && (decide (c.idle ≤ 4294967295) && (decide (1 ≤ c.window) && decide (c.window ≤ 65535)))))))))
def Cfg.ok (c : Cfg) : Bool := c.base && (!c.guarded || (if c.server then usersOk c.users else clientOk c.mech c.user))
end Go.Proofs.Nu
