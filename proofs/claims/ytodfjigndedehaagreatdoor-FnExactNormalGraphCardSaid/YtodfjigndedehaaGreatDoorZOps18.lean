/-
  Trees: values behind an interface. Made, asked for their kind, their nodes asked for. Conditions: the engine's vD holds ('EngOk').
-/
import Derived.Test.YtodfjigndedehaaGreatDoorZOps17
import Derived.Test.YtodfjigndedehaaGreatDoorZEng
import Derived.Lib.AppendZeros
namespace Go.Proofs.YtodfjigndedehaaGreatDoor.RW
open Go
open Rep RepZ
section
variable {P:Program}{G:Eng}{w w0:World}{F:List Nat}{S0:Nat→Prop}{Γ:List Ent}{K:Value→World→Prop}
def BG_ (P:Program) (t:Nat) (name:String):Option Nat:=
 match P.info? t with
 | some i=>match i.methods.find? (·.name == name) with
  | some m=>match m.path.toList,m.func with
   | [],some (f,false)=>some f
   | _,_=>none
  | none=>none
 | none=>none
theorem Ig_ {t f:Nat}{name:String}{Fs:Array Field} (h:BG_ P t name=some f) (hu:P.underlying t=some (.struct Fs)) (v:Value) (k:Nat):(method (k+1) t v name).run P w=.ok (f,v) w:=by
 unfold BG_ at h
 split at h
 ·
  rename_i i hi
  split at h
  ·
   rename_i m hm
   split at h
   ·
    rename_i hp hf
    obtain rfl:=Option.some.inj h
    have hp':m.path=#[]:=by apply Array.ext';simpa using hp
    simp [method,typeInfo,hi,hm,hp',hf,follow,receiverAt,Place.get,run_underlying hu]
   · cases h
  · cases h
 · cases h
def ConI (P:Program) (G:Eng) (r:Value) (name:String) (R:Value→List Ent→Prop):Prop:=
 ∃ t v f Fs,r=.iface t v∧P.underlying t=some (.struct Fs)∧BG_ P t name=some f∧G.can f=true∧cA P f #[v] [] [] R
theorem Iu_ (P:Program):∃ k,P.types.size+Made.depth=k+1:=⟨P.types.size+Made.depth-1,by
 have:0<Made.depth:=by decide
 omega⟩
theorem iE {r:Value}{name:String}{R:Value→List Ent→Prop} (hc:ConI P G r name R) (H:Cx w0 F S0 w Γ) (hK:∀ v Γ' w',R v Γ'→Cx w0 F S0 w' (Γ'++Γ)→K v w'):EInv P G r name #[] w K:=by
 obtain ⟨t,v,f,Fs,rfl,hu,hm,hg,hc⟩:=hc
 obtain ⟨k,hk⟩:=Iu_ P
 exact ⟨t,v,f,v,rfl,by rw [hk];exact Ig_ hm hu v k,hg,iC (Γi:=[]) hc H trivial hK⟩
end
end Go.Proofs.YtodfjigndedehaaGreatDoor.RW
