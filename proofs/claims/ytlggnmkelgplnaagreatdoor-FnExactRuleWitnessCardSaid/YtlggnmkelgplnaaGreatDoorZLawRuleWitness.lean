/-
  Plain laws: the relations of generators in both. No program in sight. No condition.
-/
import Derived.Test.YtlggnmkelgplnaaGreatDoorZP50
import Derived.Test.YtlggnmkelgplnaaGreatDoorZP17
import Derived.Test.YtlggnmkelgplnaaGreatDoorZP35
namespace Go.Proofs.YtlggnmkelgplnaaGreatDoor
theorem sg1 (f:Nat→Int):sg 1 f=f 0:=by simp [sg]
theorem sg2 (f:Nat→Int):sg 2 f=f 0+f 1:=by simp [sg]
theorem sg3 (f:Nat→Int):sg 3 f=f 0+f 1+f 2:=by simp [sg]
theorem cgr {p c d x y:Int} (h:(c+d) % p=0):(c*x+y) % p=0↔y % p=(d*x) % p:=by
 have e:c*x+y=(c+d)*x+(y-d*x):=by rw [Int.add_mul];omega
 rw [e,Int.add_emod,Int.mul_emod,h,Int.zero_mul,Int.zero_emod,Int.zero_add,Int.emod_emod_of_dvd _ (Int.dvd_refl p)]
 exact (Int.emod_eq_emod_iff_emod_sub_eq_zero).symm
theorem cg1 {p:Int}:(p-1+1) % p=0:=by rw [Int.sub_add_cancel,Int.emod_self]
theorem cgv {p v:Int}:((p-v) % p+v) % p=0:=by rw [add_mod1,Int.sub_add_cancel,Int.emod_self]
structure Mate (p:Int) (N:Nat) (E G:Rows):Prop where
 e:okM p N E
 el:E.length≤1000
 g:okM p N G
 gl:G.length≤1000
 f1:∀ v:List Int,uH p N E v→∃ c:Nat→Int,∀ j,j<N→Go.Proofs.YtlggnmkelgplnaaGreatDoor.el v j % p=sg G.length (fun i=>c i*Go.Proofs.YtlggnmkelgplnaaGreatDoor.el (gr G i) j) % p
 f2:∀ i,i<G.length→uH p N E (gr G i)
theorem Mate.red {p:Int}{N:Nat}{E G:Rows} (hf:fdB p=true) (h:Mate p N E G):eC p N ((fG p N E).map (selR (List.range N)))=eC p N G:=by
 have:=Bu_ (p:=p) (W:=N) (eqs:=E) (G:=G) (ends:=List.range N) hf (fun q hq=>List.mem_range.1 hq) h.e (by rw [List.length_range];exact h.g) (fun v hv=>?_) (fun i hi=>⟨gr G i,h.f2 i hi,fun j hj=>?_⟩)
 · rwa [List.length_range] at this
 ·
  obtain ⟨c,hc⟩:=h.f1 v hv
  rw [List.length_range]
  refine ⟨c,fun j hj=>?_⟩
  rw [uO (by rw [List.length_range];exact hj),← hc j hj]
  congr 2
  rw [List.getD_eq_getElem?_getD,List.getElem?_range hj];rfl
 ·
  rw [List.length_range] at hj
  congr 2
  rw [List.getD_eq_getElem?_getD,List.getElem?_range hj];rfl
theorem vE {p:Int}{n:Nat}{r:List Int} (h:r.length=n) (h2:inP p r):okM p n [r]:=fun x hx=>by
 rw [List.mem_singleton.1 hx];exact ⟨h,h2⟩
theorem okM2 {p:Int}{n:Nat}{r s:List Int} (h:okM p n [r]) (h2:okM p n [s]):okM p n [r,s]:=fun x hx=>by
 rcases List.mem_cons.1 hx with rfl | hx
 · exact h x (by simp)
 · exact h2 x hx
theorem j1 {P:Nat→Prop} (h0:P 0):∀ j,j<1→P j:=fun j hj=>by
 obtain rfl:j=0:=by omega
 exact h0
theorem j2 {P:Nat→Prop} (h0:P 0) (h1:P 1):∀ j,j<2→P j:=fun j hj=>by
 match j,hj with
 | 0,_=>exact h0
 | 1,_=>exact h1
theorem j3 {P:Nat→Prop} (h0:P 0) (h1:P 1) (h2:P 2):∀ j,j<3→P j:=fun j hj=>by
 match j,hj with
 | 0,_=>exact h0
 | 1,_=>exact h1
 | 2,_=>exact h2
theorem wE {p a:Int} (h:0≤a∧a<p):inP p [a]:=fun x hx=>by rw [List.mem_singleton.1 hx];exact h
theorem zC {p a:Int}{l:List Int} (h:0≤a∧a<p) (hl:inP p l):inP p (a::l):=fun x hx=>by
 rcases List.mem_cons.1 hx with rfl | hx
 · exact h
 · exact hl x hx
section
variable {p v:Int} (hp:2≤p∧p≤97) (hv:0≤v∧v<p)
include hp
theorem mate3:Mate p 3 [[p-1,1,0],[p-1,0,1]] [[1,1,1]]:=by
 have b0:(0:Int)≤0∧(0:Int)<p:=⟨by omega,by omega⟩
 have b1:(0:Int)≤1∧(1:Int)<p:=⟨by omega,by omega⟩
 have bp:(0:Int)≤p-1∧p-1<p:=⟨by omega,by omega⟩
 refine ⟨okM2 (vE rfl (zC bp (zC b1 (wE b0)))) (vE rfl (zC bp (zC b0 (wE b1)))),by simp,vE rfl (zC b1 (zC b1 (wE b1))),by simp,fun x hx=>⟨fun _=>el x 0,?_⟩,j1 (j2 ?_ ?_)⟩
 ·
  have h0:((p-1)*el x 0+el x 1) % p=0:=by
   have:=hx 0 (by simp)
   rw [sg3] at this
   have h:((p-1)*el x 0+1*el x 1+0*el x 2) % p=0:=this
   rwa [Int.one_mul,Int.zero_mul,Int.add_zero] at h
  have h1:((p-1)*el x 0+el x 2) % p=0:=by
   have:=hx 1 (by simp)
   rw [sg3] at this
   have h:((p-1)*el x 0+0*el x 1+1*el x 2) % p=0:=this
   rwa [Int.one_mul,Int.zero_mul,Int.add_zero] at h
  have k0:=(cgr cg1).1 h0
  have k1:=(cgr cg1).1 h1
  rw [Int.one_mul] at k0 k1
  refine j3 ?_ ?_ ?_
  ·
   show _=sg 1 _ % p
   rw [sg1]
   show el x 0 % p=(el x 0*1) % p
   rw [Int.mul_one]
  ·
   show _=sg 1 _ % p
   rw [sg1]
   show el x 1 % p=(el x 0*1) % p
   rw [Int.mul_one,k0]
  ·
   show _=sg 1 _ % p
   rw [sg1]
   show el x 2 % p=(el x 0*1) % p
   rw [Int.mul_one,k1]
 ·
  rw [sg3]
  show ((p-1)*1+1*1+0*1) % p=0
  rw [show ((p-1)*1+1*1+0*1:Int)=p by omega,Int.emod_self]
 ·
  rw [sg3]
  show ((p-1)*1+0*1+1*1) % p=0
  rw [show ((p-1)*1+0*1+1*1:Int)=p by omega,Int.emod_self]
theorem mate4:Mate p 1 ([]:Rows) ([[1]]:Rows):=by
 have b0:(0:Int)≤0∧(0:Int)<p:=⟨by omega,by omega⟩
 have b1:(0:Int)≤1∧(1:Int)<p:=⟨by omega,by omega⟩
 have bp:(0:Int)≤p-1∧p-1<p:=⟨by omega,by omega⟩
 refine ⟨(fun x hx=>by cases hx),by simp,(vE rfl (wE b1)),by simp,fun x hx=>⟨fun _=>el x 0,?_⟩,?_⟩
 ·
  refine j1 ?_
  ·
   show _=sg 1 _ % p
   rw [sg1]
   show el x 0 % p=(el x 0*1) % p
   first | (simp;done) | (simp only [Int.mul_one,Int.mul_zero,Int.add_zero,Int.zero_add];assumption)
 · intro i hi k hk;simp at hk
theorem mate6:Mate p 1 ([[1]]:Rows) ([]:Rows):=by
 have b0:(0:Int)≤0∧(0:Int)<p:=⟨by omega,by omega⟩
 have b1:(0:Int)≤1∧(1:Int)<p:=⟨by omega,by omega⟩
 have bp:(0:Int)≤p-1∧p-1<p:=⟨by omega,by omega⟩
 refine ⟨(vE rfl (wE b1)),by simp,(fun x hx=>by cases hx),by simp,fun x hx=>⟨fun _=>0,?_⟩,?_⟩
 ·
  have q0:(1*el x 0) % p=0:=by
   have:=hx 0 (by simp)
   rw [sg1] at this
   exact this
  have k0:el x 0 % p=0:=by rwa [Int.one_mul] at q0
  refine j1 ?_
  ·
   show el x 0 % p=(0:Int) % p
   rw [k0,Int.zero_emod]
 · intro i hi;simp at hi
theorem mate5:Mate p 3 ([[p-1,p-1,1]]:Rows) ([[1,0,1],[0,1,1]]:Rows):=by
 have b0:(0:Int)≤0∧(0:Int)<p:=⟨by omega,by omega⟩
 have b1:(0:Int)≤1∧(1:Int)<p:=⟨by omega,by omega⟩
 have bp:(0:Int)≤p-1∧p-1<p:=⟨by omega,by omega⟩
 refine ⟨(vE rfl (zC bp (zC bp (wE b1)))),by simp,(okM2 (vE rfl (zC b1 (zC b0 (wE b1)))) (vE rfl (zC b0 (zC b1 (wE b1))))),by simp,fun x hx=>⟨fun i=>el x i,?_⟩,?_⟩
 ·
  have q0:((p-1)*el x 0+(p-1)*el x 1+1*el x 2) % p=0:=by
   have:=hx 0 (by simp)
   rw [sg3] at this
   exact this
  have k0:el x 2 % p=(el x 0+el x 1) % p:=by
   have:=(cgr (x:=el x 0+el x 1) (y:=el x 2) cg1).1 (by rw [←q0];congr 1;rw [Int.mul_add];omega)
   rwa [Int.one_mul] at this
  refine j3 ?_ ?_ ?_
  ·
   show _=sg 2 _ % p
   rw [sg2]
   show el x 0 % p=(el x 0*1+el x 1*0) % p
   first | (simp;done) | (simp only [Int.mul_one,Int.mul_zero,Int.add_zero,Int.zero_add];assumption)
  ·
   show _=sg 2 _ % p
   rw [sg2]
   show el x 1 % p=(el x 0*0+el x 1*1) % p
   first | (simp;done) | (simp only [Int.mul_one,Int.mul_zero,Int.add_zero,Int.zero_add];assumption)
  ·
   show _=sg 2 _ % p
   rw [sg2]
   show el x 2 % p=(el x 0*1+el x 1*1) % p
   first | (simp;done) | (simp only [Int.mul_one,Int.mul_zero,Int.add_zero,Int.zero_add];assumption)
 ·
  refine j2 ?_ ?_
  ·
   refine j1 ?_
   ·
    rw [sg3]
    show ((p-1)*1+(p-1)*0+1*1) % p=0
    first | (rw [show ((p-1)*1+(p-1)*0+1*1:Int)=p by omega,Int.emod_self]) | (rw [show ((p-1)*0+(p-1)*1+1*1:Int)=p by omega,Int.emod_self]) | (rw [show (1*1+0*1+(p-1)*1:Int)=p by omega,Int.emod_self]) | (rw [show (0*1+1*1+(p-1)*1:Int)=p by omega,Int.emod_self]) | (rw [show (1*1+(p-1)*1+(p-1)*0:Int)=p by omega,Int.emod_self]) | (rw [show (1*1+(p-1)*0+(p-1)*1:Int)=p by omega,Int.emod_self])
  ·
   refine j1 ?_
   ·
    rw [sg3]
    show ((p-1)*0+(p-1)*1+1*1) % p=0
    first | (rw [show ((p-1)*1+(p-1)*0+1*1:Int)=p by omega,Int.emod_self]) | (rw [show ((p-1)*0+(p-1)*1+1*1:Int)=p by omega,Int.emod_self]) | (rw [show (1*1+0*1+(p-1)*1:Int)=p by omega,Int.emod_self]) | (rw [show (0*1+1*1+(p-1)*1:Int)=p by omega,Int.emod_self]) | (rw [show (1*1+(p-1)*1+(p-1)*0:Int)=p by omega,Int.emod_self]) | (rw [show (1*1+(p-1)*0+(p-1)*1:Int)=p by omega,Int.emod_self])
theorem mate9:Mate p 3 ([[1,0,p-1],[0,1,p-1]]:Rows) ([[1,1,1]]:Rows):=by
 have b0:(0:Int)≤0∧(0:Int)<p:=⟨by omega,by omega⟩
 have b1:(0:Int)≤1∧(1:Int)<p:=⟨by omega,by omega⟩
 have bp:(0:Int)≤p-1∧p-1<p:=⟨by omega,by omega⟩
 refine ⟨(okM2 (vE rfl (zC b1 (zC b0 (wE bp)))) (vE rfl (zC b0 (zC b1 (wE bp))))),by simp,(vE rfl (zC b1 (zC b1 (wE b1)))),by simp,fun x hx=>⟨fun _=>el x 2,?_⟩,?_⟩
 ·
  have q0:(1*el x 0+0*el x 1+(p-1)*el x 2) % p=0:=by
   have:=hx 0 (by simp)
   rw [sg3] at this
   exact this
  have q1:(0*el x 0+1*el x 1+(p-1)*el x 2) % p=0:=by
   have:=hx 1 (by simp)
   rw [sg3] at this
   exact this
  have k0:el x 0 % p=el x 2 % p:=by
   have:=(cgr (x:=el x 2) (y:=el x 0) cg1).1 (by rw [←q0];congr 1;omega)
   rwa [Int.one_mul] at this
  have k1:el x 1 % p=el x 2 % p:=by
   have:=(cgr (x:=el x 2) (y:=el x 1) cg1).1 (by rw [←q1];congr 1;omega)
   rwa [Int.one_mul] at this
  refine j3 ?_ ?_ ?_
  ·
   show _=sg 1 _ % p
   rw [sg1]
   show el x 0 % p=(el x 2*1) % p
   first | (simp;done) | (simp only [Int.mul_one,Int.mul_zero,Int.add_zero,Int.zero_add];assumption)
  ·
   show _=sg 1 _ % p
   rw [sg1]
   show el x 1 % p=(el x 2*1) % p
   first | (simp;done) | (simp only [Int.mul_one,Int.mul_zero,Int.add_zero,Int.zero_add];assumption)
  ·
   show _=sg 1 _ % p
   rw [sg1]
   show el x 2 % p=(el x 2*1) % p
   first | (simp;done) | (simp only [Int.mul_one,Int.mul_zero,Int.add_zero,Int.zero_add];assumption)
 ·
  refine j1 ?_
  ·
   refine j2 ?_ ?_
   ·
    rw [sg3]
    show (1*1+0*1+(p-1)*1) % p=0
    first | (rw [show ((p-1)*1+(p-1)*0+1*1:Int)=p by omega,Int.emod_self]) | (rw [show ((p-1)*0+(p-1)*1+1*1:Int)=p by omega,Int.emod_self]) | (rw [show (1*1+0*1+(p-1)*1:Int)=p by omega,Int.emod_self]) | (rw [show (0*1+1*1+(p-1)*1:Int)=p by omega,Int.emod_self]) | (rw [show (1*1+(p-1)*1+(p-1)*0:Int)=p by omega,Int.emod_self]) | (rw [show (1*1+(p-1)*0+(p-1)*1:Int)=p by omega,Int.emod_self])
   ·
    rw [sg3]
    show (0*1+1*1+(p-1)*1) % p=0
    first | (rw [show ((p-1)*1+(p-1)*0+1*1:Int)=p by omega,Int.emod_self]) | (rw [show ((p-1)*0+(p-1)*1+1*1:Int)=p by omega,Int.emod_self]) | (rw [show (1*1+0*1+(p-1)*1:Int)=p by omega,Int.emod_self]) | (rw [show (0*1+1*1+(p-1)*1:Int)=p by omega,Int.emod_self]) | (rw [show (1*1+(p-1)*1+(p-1)*0:Int)=p by omega,Int.emod_self]) | (rw [show (1*1+(p-1)*0+(p-1)*1:Int)=p by omega,Int.emod_self])
theorem mate11:Mate p 3 ([[1,p-1,p-1]]:Rows) ([[1,1,0],[1,0,1]]:Rows):=by
 have b0:(0:Int)≤0∧(0:Int)<p:=⟨by omega,by omega⟩
 have b1:(0:Int)≤1∧(1:Int)<p:=⟨by omega,by omega⟩
 have bp:(0:Int)≤p-1∧p-1<p:=⟨by omega,by omega⟩
 refine ⟨(vE rfl (zC b1 (zC bp (wE bp)))),by simp,(okM2 (vE rfl (zC b1 (zC b1 (wE b0)))) (vE rfl (zC b1 (zC b0 (wE b1))))),by simp,fun x hx=>⟨fun i=>el x (i+1),?_⟩,?_⟩
 ·
  have q0:(1*el x 0+(p-1)*el x 1+(p-1)*el x 2) % p=0:=by
   have:=hx 0 (by simp)
   rw [sg3] at this
   exact this
  have k0:el x 0 % p=(el x 1+el x 2) % p:=by
   have:=(cgr (x:=el x 1+el x 2) (y:=el x 0) cg1).1 (by rw [←q0];congr 1;rw [Int.mul_add];omega)
   rwa [Int.one_mul] at this
  refine j3 ?_ ?_ ?_
  ·
   show _=sg 2 _ % p
   rw [sg2]
   show el x 0 % p=(el x 1*1+el x 2*1) % p
   first | (simp;done) | (simp only [Int.mul_one,Int.mul_zero,Int.add_zero,Int.zero_add];assumption)
  ·
   show _=sg 2 _ % p
   rw [sg2]
   show el x 1 % p=(el x 1*1+el x 2*0) % p
   first | (simp;done) | (simp only [Int.mul_one,Int.mul_zero,Int.add_zero,Int.zero_add];assumption)
  ·
   show _=sg 2 _ % p
   rw [sg2]
   show el x 2 % p=(el x 1*0+el x 2*1) % p
   first | (simp;done) | (simp only [Int.mul_one,Int.mul_zero,Int.add_zero,Int.zero_add];assumption)
 ·
  refine j2 ?_ ?_
  ·
   refine j1 ?_
   ·
    rw [sg3]
    show (1*1+(p-1)*1+(p-1)*0) % p=0
    first | (rw [show ((p-1)*1+(p-1)*0+1*1:Int)=p by omega,Int.emod_self]) | (rw [show ((p-1)*0+(p-1)*1+1*1:Int)=p by omega,Int.emod_self]) | (rw [show (1*1+0*1+(p-1)*1:Int)=p by omega,Int.emod_self]) | (rw [show (0*1+1*1+(p-1)*1:Int)=p by omega,Int.emod_self]) | (rw [show (1*1+(p-1)*1+(p-1)*0:Int)=p by omega,Int.emod_self]) | (rw [show (1*1+(p-1)*0+(p-1)*1:Int)=p by omega,Int.emod_self])
  ·
   refine j1 ?_
   ·
    rw [sg3]
    show (1*1+(p-1)*0+(p-1)*1) % p=0
    first | (rw [show ((p-1)*1+(p-1)*0+1*1:Int)=p by omega,Int.emod_self]) | (rw [show ((p-1)*0+(p-1)*1+1*1:Int)=p by omega,Int.emod_self]) | (rw [show (1*1+0*1+(p-1)*1:Int)=p by omega,Int.emod_self]) | (rw [show (0*1+1*1+(p-1)*1:Int)=p by omega,Int.emod_self]) | (rw [show (1*1+(p-1)*1+(p-1)*0:Int)=p by omega,Int.emod_self]) | (rw [show (1*1+(p-1)*0+(p-1)*1:Int)=p by omega,Int.emod_self])
include hv
theorem mate7:Mate p 2 ([[(p-v) % p,1]]:Rows) ([[1,v]]:Rows):=by
 have b0:(0:Int)≤0∧(0:Int)<p:=⟨by omega,by omega⟩
 have b1:(0:Int)≤1∧(1:Int)<p:=⟨by omega,by omega⟩
 have bp:(0:Int)≤p-1∧p-1<p:=⟨by omega,by omega⟩
 have bv:(0:Int)≤(p-v) % p∧(p-v) % p<p:=mL hp.1
 refine ⟨(vE rfl (zC bv (wE b1))),by simp,(vE rfl (zC b1 (wE hv))),by simp,fun x hx=>⟨fun _=>el x 0,?_⟩,?_⟩
 ·
  have q0:(((p-v) % p)*el x 0+1*el x 1) % p=0:=by
   have:=hx 0 (by simp)
   rw [sg2] at this
   exact this
  have k0:el x 1 % p=(el x 0*v) % p:=by
   have:=(cgr (x:=el x 0) (y:=el x 1) (cgv (v:=v))).1 (by rw [←q0];congr 1;omega)
   rwa [Int.mul_comm] at this
  refine j2 ?_ ?_
  ·
   show _=sg 1 _ % p
   rw [sg1]
   show el x 0 % p=(el x 0*1) % p
   first | (simp;done) | (simp only [Int.mul_one,Int.mul_zero,Int.add_zero,Int.zero_add];assumption)
  ·
   show _=sg 1 _ % p
   rw [sg1]
   show el x 1 % p=(el x 0*v) % p
   exact k0
 ·
  refine j1 ?_
  ·
   refine j1 ?_
   ·
    rw [sg2]
    show (((p-v) % p)*1+1*v) % p=0
    rw [Int.mul_one,Int.one_mul];exact cgv
theorem mate13:Mate p 2 ([[1,(p-v) % p]]:Rows) ([[v,1]]:Rows):=by
 have b0:(0:Int)≤0∧(0:Int)<p:=⟨by omega,by omega⟩
 have b1:(0:Int)≤1∧(1:Int)<p:=⟨by omega,by omega⟩
 have bp:(0:Int)≤p-1∧p-1<p:=⟨by omega,by omega⟩
 have bv:(0:Int)≤(p-v) % p∧(p-v) % p<p:=mL hp.1
 refine ⟨(vE rfl (zC b1 (wE bv))),by simp,(vE rfl (zC hv (wE b1))),by simp,fun x hx=>⟨fun _=>el x 1,?_⟩,?_⟩
 ·
  have q0:(1*el x 0+((p-v) % p)*el x 1) % p=0:=by
   have:=hx 0 (by simp)
   rw [sg2] at this
   exact this
  have k0:el x 0 % p=(el x 1*v) % p:=by
   have:=(cgr (x:=el x 1) (y:=el x 0) (cgv (v:=v))).1 (by rw [←q0];congr 1;omega)
   rwa [Int.mul_comm] at this
  refine j2 ?_ ?_
  ·
   show _=sg 1 _ % p
   rw [sg1]
   show el x 0 % p=(el x 1*v) % p
   exact k0
  ·
   show _=sg 1 _ % p
   rw [sg1]
   show el x 1 % p=(el x 1*1) % p
   first | (simp;done) | (simp only [Int.mul_one,Int.mul_zero,Int.add_zero,Int.zero_add];assumption)
 ·
  refine j1 ?_
  ·
   refine j1 ?_
   ·
    rw [sg2]
    show (1*v+((p-v) % p)*1) % p=0
    rw [Int.mul_one,Int.one_mul,Int.add_comm];exact cgv
end
theorem qV {p k v:Int} (hp:2≤p∧p≤97) (hk:rng k 3 14=true) (h8:k≠8) (h14:k≠14) (hv:0≤v∧v<p):Mate p ((kd k).1.toNat+(kd k).2.toNat) (oX p k v) (kL k v):=by
 have:=rng_true.1 hk
 have hc:k=3∨k=4∨k=5∨k=6∨k=7∨k=9∨k=10∨k=11∨k=12∨k=13:=by omega
 rcases hc with rfl | rfl | rfl | rfl | rfl | rfl | rfl | rfl | rfl | rfl
 · exact mate3 hp
 · exact mate4 hp
 · exact mate5 hp
 · exact mate6 hp
 · exact mate7 hp hv
 · exact mate9 hp
 · exact mate4 hp
 · exact mate11 hp
 · exact mate6 hp
 · exact mate13 hp hv
theorem dnRows_ {p k v:Int} (hp:2≤p∧p≤97) (hk:rng k 3 14=true) (h8:k≠8) (h14:k≠14) (hv:0≤v∧v<p) :
  eQ p ((kd k).1+(kd k).2) (k,v,ugL (kd k).1.toNat,frL (kd k).1.toNat (kd k).2.toNat)=some (oX p k v):=by
 have:=rng_true.1 hk
 have b0:(0:Int)≤0∧(0:Int)<p:=⟨by omega,by omega⟩
 have b1:(0:Int)≤1∧(1:Int)<p:=⟨by omega,by omega⟩
 have bp:(0:Int)≤p-1∧p-1<p:=⟨by omega,by omega⟩
 have bv:(0:Int)≤(p-v) % p∧(p-v) % p<p:=mL hp.1
 obtain ⟨r1,r2,r3,r4,r5,r6,r7,r8,r9⟩:=Fu_ hp b1 bp
 obtain ⟨_,s2,s3,_⟩:=Fu_ hp b1 bv
 have sp:subO p 1=some (p-1):=fD (by omega) (by omega)
 have ng:=BR_ hp hv
 have hc:k=3∨k=4∨k=5∨k=6∨k=7∨k=9∨k=10∨k=11∨k=12∨k=13:=by omega
 have u0:ugL 0=[]:=rfl
 have u1:ugL 1=[0]:=rfl
 have u2:ugL 2=[0,1]:=rfl
 have f01:frL 0 1=[0]:=rfl
 have f11:frL 1 1=[1]:=rfl
 have f12:frL 1 2=[1,2]:=rfl
 have f21:frL 2 1=[2]:=rfl
 have f10:frL 1 0=[]:=rfl
 have q3:subO 9 9=some 0:=rfl
 have q4:subO 10 9=some 1:=rfl
 have q5:subO 11 9=some 2:=rfl
 have q6:subO 12 9=some 3:=rfl
 have q7:subO 13 9=some 4:=rfl
 have t0:qA 0 3=some 3:=rfl
 have t1:qA 1 3=some 4:=rfl
 have t2:qA 2 3=some 5:=rfl
 have t3:qA 3 3=some 6:=rfl
 have t4:qA 4 3=some 7:=rfl
 unfold oX
 generalize (p-v) % p=q at ng s2 s3 ⊢
 rcases hc with rfl | rfl | rfl | rfl | rfl | rfl | rfl | rfl | rfl | rfl <;>
  simp [eQ,kd,idxO,sp,ng,r1,r2,r3,r4,r5,r6,r7,r8,r9,s2,s3,u0,u1,u2,f01,f11,f12,f21,f10,q3,q4,q5,q6,q7,t0,t1,t2,t3,t4]
theorem Hy_ (a b:Nat):ugL a++frL a b=(List.range (a+b)).map fun q:Nat=>(q:Int):=by
 unfold ugL frL
 rw [List.range_add,List.map_append,List.map_map]
 congr 1
 refine List.map_congr_left fun q _=>?_
 show (q:Int)+a=((a+q:Nat):Int)
 omega
theorem Bt_ {n:Nod} (h:lfB n=true) (h1:n.1≠1) (h2:n.1≠2):rng n.1 3 14=true∧0≤n.2.1:=by
 have hk:=qL h
 refine ⟨rng_true.2 (by omega),?_⟩
 unfold lfB at h
 simp only [Bool.and_eq_true] at h
 have h3:=h.2.2
 rw [if_neg h1] at h3
 split at h3
 · exact (rng_true.1 h3).1
 · have:=of_decide_eq_true h3;omega
theorem HM_ {p:Int}{n:Nod} (hf:fdB p=true) (h:lfB n=true) (h1:n.1≠1) (h2:n.1≠2) (h8:n.1≠8) (h14:n.1≠14) (hv:n.2.1<p) :
  fM p n=some ((kd n.1).1,(kd n.1).2,eC p ((kd n.1).1.toNat+(kd n.1).2.toNat) (kL n.1 n.2.1)):=by
 have hp:=dC hf
 obtain ⟨hr,h0⟩:=Bt_ h h1 h2
 obtain ⟨k,v,s⟩:=n
 dsimp only at *
 have hM:=qV hp hr h8 h14 ⟨h0,hv⟩
 have hR:=dnRows_ hp hr h8 h14 ⟨h0,hv⟩
 have hG:=sV h
 have hL:=rW h
 have eL:pG (k,v,s)=((kd k).1+(kd k).2,[(k,v,ugL (kd k).1.toNat,frL (kd k).1.toNat (kd k).2.toNat)],ugL (kd k).1.toNat,frL (kd k).1.toNat (kd k).2.toNat):=by
  unfold pG;dsimp only;rw [if_neg h1,if_neg h2]
 rw [eL] at hG hL
 obtain ⟨a,b,hk,ha,hb⟩:=rO k
 rw [hk] at hM hR hG hL ⊢
 dsimp only [Int.toNat_natCast] at hM hR hG hL ⊢
 have e1:((a:Int)+(b:Int))=((a+b:Nat):Int):=by omega
 rw [e1] at hR hG hL
 have hm:iB=1099511627776:=rfl
 have hD:=Bb_ (W:=a+b) (a:=a) (b:=b) (ends:=List.range (a+b)) (eqs:=oX p k v) hf hG.1 (fun e he=>by
  rw [List.mem_singleton.1 he];exact ⟨hv,h8,h14⟩) (ugL_len a) (frL_len a b) (Hy_ a b) (fun q hq=>List.mem_range.1 hq) hM.e hM.el
  (bnd (bnd (a:=(k,v,ugL a,frL a b)) rfl (bnd hR (bnd (vB (by have:=hM.el;simp;omega)) rfl))) (by rw [List.nil_append];rfl))
 rw [hM.red hf] at hD
 exact bnd hL (bnd hD rfl)
end Go.Proofs.YtlggnmkelgplnaaGreatDoor
namespace Go.Proofs.YtlggnmkelgplnaaGreatDoor
instance (s:ByteArray) (l:List ByteArray):Decidable (s∈l):=decidable_of_iff (l.any (fun a=>decide (a=s))=true) (by simp [List.any_eq_true])
def bt (s:ByteArray) (i:Nat):Int:=((s.data[i]?.getD 0).toNat:Int)
theorem fX {s:ByteArray}{i:Nat} (h:i<s.size):yC s (i:Int)=some (bt s i):=by
 unfold yC bt
 rw [if_pos (by omega),Int.toNat_natCast]
 have h2:i<s.data.size:=h
 rw [Array.getElem?_eq_getElem h2]
 have:s[i]?=some s.data[i]:=by
  rw [getElem?_pos s i h];rfl
 rw [this];rfl
def oI (x:Int):Bool:=rng x 97 122
def digB (x:Int):Bool:=rng x 48 57
def rI (x:Int):Bool:=oI x||digB x
def dH:List ByteArray:=[⟨#[105,100]⟩,⟨#[115,119,97,112]⟩,⟨#[99,111,112,121]⟩,⟨#[100,105,115,99,97,114,100]⟩,⟨#[97,100,100]⟩,⟨#[122,101,114,111]⟩,⟨#[115,99,97,108,101]⟩,⟨#[100,101,108,97,121]⟩,⟨#[99,111,99,111,112,121]⟩,⟨#[99,111,100,105,115,99,97,114,100]⟩,⟨#[99,111,97,100,100]⟩,⟨#[99,111,122,101,114,111]⟩,⟨#[99,111,115,99,97,108,101]⟩,⟨#[99,111,100,101,108,97,121]⟩]
def qI (s:ByteArray):Bool:=(List.range s.size).all fun i=>rI (bt s i)
def nmB (s:ByteArray):Bool:=rng (s.size:Int) 1 8&&(oI (bt s 0)&&(qI s&&!decide (s∈dH)))
theorem chrs_true {s:ByteArray}:qI s=true↔∀ i,i<s.size→rI (bt s i)=true:=by
 unfold qI
 rw [List.all_eq_true]
 exact ⟨fun h i hi=>h i (List.mem_range.2 hi),fun h i hi=>h i (List.mem_range.1 hi)⟩
theorem rng_false {x a b:Int}:rng x a b=false↔¬(a≤x∧x≤b):=by
 rw [←rng_true];simp
theorem l1HasS_ (l:List ByteArray) (s:ByteArray):tZ l s=some (decide (s∈l)):=by
 refine sqW (nH (fun a=>!decide (a=s)) l 0 ?_ (t:=true)) ?_
 ·
  intro j a hj
  rw [Nat.zero_add]
  refine bnd (pA hj) (stp ?_)
  by_cases h:a=s
  · rw [dT h];rfl
  · rw [dF h];rfl
 ·
  have:(l.all fun a=>!decide (a=s))=!decide (s∈l):=by
   rw [Bool.eq_iff_iff,List.all_eq_true]
   constructor
   ·
    intro h
    simp only [Bool.not_eq_true',decide_eq_false_iff_not]
    intro hv
    have:=h s hv
    simp at this
   ·
    intro h a ha
    simp only [Bool.not_eq_true',decide_eq_false_iff_not] at h ⊢
    rintro rfl;exact h ha
  rw [this]
  cases decide (s∈l) <;> rfl
theorem lbWord_ (s:ByteArray):qZ s=some (rng (s.size:Int) 1 8&&(oI (bt s 0)&&qI s)):=by
 cases hr:rng (s.size:Int) 1 8 with
 | false=>exact bnd (a:=true) (bnd (l1In _ _ _) (stp (by rw [hr];rfl))) rfl
 | true=>
  have hl:=rng_true.1 hr
  have h0:yC s 0=some (bt s 0):=fX (i:=0) (by omega)
  cases hb:oI (bt s 0) with
  | false=>
   have hb:=rng_false.1 hb
   have hk:((some (decide ((bt s 0:Int)<97))).bind fun a32=>
   cond a32
   (some true)
   ((yC s 0).bind fun a35=>
    (some (decide ((122:Int)<a35))).bind fun a37=>
    some a37))=some true:=by
    by_cases h1:bt s 0<97
    · exact stp (cTW (dT h1) rfl)
    · exact stp (cFW (dF h1) (bnd h0 (stp (congrArg some (dT (by omega))))))
   exact bnd (a:=true) (bnd (l1In _ _ _) (stp (by rw [hr];exact cFW rfl (bnd h0 hk)))) rfl
  | true=>
   have hb1:=rng_true.1 hb
   refine bnd (a:=false) (bnd (l1In _ _ _) (stp (by rw [hr];exact cFW rfl (bnd h0 (stp (cFW (dF (by omega)) (bnd h0 (stp (congrArg some (dF (by omega)))))))))) ) (cFW rfl ?_)
   obtain ⟨t,h1,h2⟩:=CY_ (s:=(1:Int)) (f:=fun (s469:Int)=>
    (some (decide (s469<((s.size:Nat):Int)))).bind fun a478=>
    cond a478
    (((yC s s469).bind fun a521=>
      (some (decide ((a521:Int)<97))).bind fun a523=>
      cond a523
      ((yC s s469).bind fun a543=>
       (some (decide ((a543:Int)<48))).bind fun a545=>
       cond a545
       (some true)
       ((yC s s469).bind fun a548=>
        (some (decide ((57:Int)<a548))).bind fun a550=>
        some a550))
      ((yC s s469).bind fun a526=>
       (some (decide ((122:Int)<a526))).bind fun a528=>
       cond a528
       ((yC s s469).bind fun a532=>
        (some (decide ((a532:Int)<48))).bind fun a534=>
        cond a534
        (some true)
        ((yC s s469).bind fun a537=>
         (some (decide ((57:Int)<a537))).bind fun a539=>
         some a539))
       (some false))).bind fun (s515:Bool)=>
     cond s515
     (some (.inr (.inr false)))
     ((qA s469 1).bind fun a556=>
      some (.inl a556)))
    (some (.inr (.inl ())))) (fun k=>∃ j:Nat,k=(j:Int)∧1≤j∧j≤s.size∧∀ i,i<j→rI (bt s i)=true)
    (fun r=>r=if qI s=true then Sum.inl () else Sum.inr false) (fun k=>s.size-k.toNat) (by
     rintro k ⟨j,rfl,hj1,hj2,hall⟩
     by_cases hj:j<s.size
     ·
      have hs:=fX hj
      have hch:(((yC s ((j:Nat):Int)).bind fun a521=>
      (some (decide ((a521:Int)<97))).bind fun a523=>
      cond a523
      ((yC s ((j:Nat):Int)).bind fun a543=>
       (some (decide ((a543:Int)<48))).bind fun a545=>
       cond a545
       (some true)
       ((yC s ((j:Nat):Int)).bind fun a548=>
        (some (decide ((57:Int)<a548))).bind fun a550=>
        some a550))
      ((yC s ((j:Nat):Int)).bind fun a526=>
       (some (decide ((122:Int)<a526))).bind fun a528=>
       cond a528
       ((yC s ((j:Nat):Int)).bind fun a532=>
        (some (decide ((a532:Int)<48))).bind fun a534=>
        cond a534
        (some true)
        ((yC s ((j:Nat):Int)).bind fun a537=>
         (some (decide ((57:Int)<a537))).bind fun a539=>
         some a539))
       (some false))))=some (!rI (bt s j)):=by
       rw [hs]
       simp only [Option.bind_some]
       generalize bt s j=x
       unfold rI oI digB rng
       by_cases c1:x<97
       ·
        by_cases c2:x<48
        · simp [c1,c2,show ¬97≤x by omega,show ¬48≤x by omega]
        ·
         by_cases c3:57<x
         · simp [c1,c2,c3,show ¬97≤x by omega,show ¬x≤57 by omega]
         · simp [c1,c2,c3,show ¬97≤x by omega,show 48≤x by omega,show x≤57 by omega]
       ·
        by_cases c2:122<x
        · simp [c1,c2,show ¬x<48 by omega,show ¬x≤122 by omega,show ¬x≤57 by omega,show 57<x by omega]
        · simp [c1,c2,show 97≤x by omega,show x≤122 by omega]
      cases hc:rI (bt s j) with
      | true=>
       rw [hc] at hch
       refine .inl ⟨((j+1:Nat):Int),stp (cTW (dT (by omega)) (bnd hch (cFW rfl (bnd (jB (by omega) (by omega)) rfl)))),⟨j+1,rfl,by omega,by omega,fun i hi=>?_⟩,by omega⟩
       by_cases hij:i=j
       · subst hij;exact hc
       · exact hall i (by omega)
      | false=>
       rw [hc] at hch
       refine .inr ⟨.inr false,stp (cTW (dT (by omega)) (bnd hch (cTW rfl rfl))),?_⟩
       rw [if_neg (fun h=>by have:=chrs_true.1 h j hj;rw [hc] at this;cases this)]
     ·
      refine .inr ⟨.inl (),stp (cFW (dF (by omega)) rfl),?_⟩
      rw [if_pos (chrs_true.2 fun i hi=>hall i (by omega))]) ⟨1,rfl,by omega,by omega,fun i hi=>by
       obtain rfl:i=0:=by omega
       unfold rI;rw [hb];rfl⟩
   refine sqW h1 ?_
   rw [h2]
   cases qI s <;> rfl
theorem lbName_ (s:ByteArray):rZ s=some (nmB s):=by
 unfold nmB
 refine bnd (a:=rng (s.size:Int) 1 8&&(oI (bt s 0)&&(qI s&&!decide (s∈dH)))) (bnd (lbWord_ s) ?_) rfl
 cases rng (s.size:Int) 1 8 <;> cases oI (bt s 0) <;> cases qI s <;> try rfl
 exact cTW rfl (bnd (a:=dH) rfl (bnd (l1HasS_ _ _) rfl))
theorem kindOf_ (s:ByteArray) (h:1≤s.size):∃ k,Ab_ s=some k∧decide (k=17)=!decide (s∈dH):=by
 have hw:rY=some (.empty::dH):=rfl
 have hne:s≠.empty:=by rintro rfl;exact absurd h (by decide)
 rcases vV (n:=(ByteArray.empty::dH).length) (s:=()) (f:=fun (k6:Nat) (_:Unit)=>
   (idxO (ByteArray.empty::dH) ((k6:Nat):Int)).bind fun a36=>
   (some (decide ((a36:ByteArray)=s))).bind fun a38=>
   cond a38
   (some (.inr ((k6:Nat):Int)))
   (some (.inl ()))) (fun j _=>∀ i,i<j→(ByteArray.empty::dH)[i]?≠some s) (fun r=>s∈dH∧r<17) (fun i hi=>by omega) (by
   intro j u hj hall
   have hg:=List.getElem?_eq_getElem hj
   by_cases h:(ByteArray.empty::dH)[j]=s
   ·
    refine .inr ⟨((j:Nat):Int),bnd (pA hg) (stp (cTW (dT h) rfl)),?_,?_⟩
    ·
     have:=List.getElem_mem hj
     rw [h] at this
     rcases List.mem_cons.1 this with h | h
     · exact (hne h).elim
     · exact h
    ·
     have:(ByteArray.empty::dH).length=15:=rfl
     omega
   ·
    refine .inl ⟨(),bnd (pA hg) (stp (cFW (dF h) rfl)),fun i hi=>?_⟩
    by_cases hij:i=j
    · subst hij;rw [hg];exact fun h'=>h (Option.some.inj h')
    · exact hall i (by omega)) with ⟨u,h1,h2⟩ | ⟨k,h1,h2,h3⟩
 ·
  refine ⟨17,bnd hw (sqW h1 rfl),?_⟩
  have:s ∉ dH:=fun hm=>by
   obtain ⟨i,hi,he⟩:=List.mem_iff_getElem.1 hm
   exact h2 (i+1) (by simpa using hi) (by rw [List.getElem?_cons_succ,List.getElem?_eq_getElem hi,he])
  rw [dF this];rfl
 ·
  refine ⟨k,bnd hw (sqW h1 rfl),?_⟩
  rw [dT h2,dF (by omega)];rfl
theorem uV (x:Int):dM x=some (oI x):=by
 unfold dM oI rng
 by_cases h1:97≤x <;> by_cases h2:x≤122 <;> simp [h1,h2]
theorem IS_ (x:Int):mN x=some (digB x):=by
 unfold mN digB rng
 by_cases h1:48≤x <;> by_cases h2:x≤57 <;> simp [h1,h2]
theorem isName_ (s:ByteArray):eU s=some (nmB s):=by
 unfold nmB
 cases hr:rng (s.size:Int) 1 8 with
 | false=>exact bnd (a:=true) (bnd (within_ _ _ _) (stp (by rw [hr];rfl))) rfl
 | true=>
  have hl:=rng_true.1 hr
  have h0:yC s 0=some (bt s 0):=fX (i:=0) (by omega)
  cases hb:oI (bt s 0) with
  | false=>exact bnd (a:=true) (bnd (within_ _ _ _) (stp (by rw [hr];exact cFW rfl (bnd h0 (bnd (uV _) (stp (by rw [hb];rfl))))))) rfl
  | true=>
   obtain ⟨k,k1,k2⟩:=kindOf_ s (by omega)
   cases hw:decide (s∈dH) with
   | true=>
    rw [hw] at k2
    have:eU s=some false:=bnd (a:=true) (bnd (within_ _ _ _) (stp (by rw [hr];exact cFW rfl (bnd h0 (bnd (uV _) (stp (by rw [hb];exact cFW rfl (bnd k1 (stp (by rw [k2];rfl)))))))))) rfl
    rw [this];cases qI s <;> rfl
   | false=>
    rw [hw] at k2
    refine bnd (a:=false) (bnd (within_ _ _ _) (stp (by rw [hr];exact cFW rfl (bnd h0 (bnd (uV _) (stp (by rw [hb];exact cFW rfl (bnd k1 (stp (by rw [k2];rfl))))))))) ) (cFW rfl ?_)
    refine bnd (gJ ⟨by omega,by omega⟩) ?_
    have loop:=vV (n:=s.size) (s:=()) (f:=fun (k52:Nat) (_:Unit)=>
    ((yC s ((k52:Nat):Int)).bind fun a130=>
     (dM a130).bind fun y132=>
     (some (!y132)).bind fun a135=>
     cond a135
     ((yC s ((k52:Nat):Int)).bind fun a139=>
      (mN a139).bind fun y141=>
      (some (!y141)).bind fun a144=>
      some a144)
     (some false)).bind fun (s124:Bool)=>
    cond s124
    (some (.inr false))
    (some (.inl ()))) (fun j _=>∀ i,i<j→rI (bt s i)=true) (fun r=>r=false∧qI s=false) (fun i hi=>by omega) (by
     intro j u hj hall
     have hs:=fX hj
     have hch:((yC s ((j:Nat):Int)).bind fun a130=>
     (dM a130).bind fun y132=>
     (some (!y132)).bind fun a135=>
     cond a135
     ((yC s ((j:Nat):Int)).bind fun a139=>
      (mN a139).bind fun y141=>
      (some (!y141)).bind fun a144=>
      some a144)
     (some false))=some (!rI (bt s j)):=by
      refine bnd hs (bnd (uV _) (stp ?_))
      unfold rI
      cases oI (bt s j) with
      | true=>rfl
      | false=>exact cTW rfl (bnd hs (bnd (IS_ _) rfl))
     cases hc:rI (bt s j) with
     | true=>
      rw [hc] at hch
      refine .inl ⟨(),bnd hch rfl,fun i hi=>?_⟩
      by_cases hij:i=j
      · subst hij;exact hc
      · exact hall i (by omega)
     | false=>
      rw [hc] at hch
      refine .inr ⟨false,bnd hch rfl,rfl,?_⟩
      cases hq:qI s with
      | false=>rfl
      | true=>have:=chrs_true.1 hq j hj;rw [hc] at this;cases this)
    rw [Int.toNat_natCast]
    rcases loop with ⟨u,h1,h2⟩ | ⟨r,h1,rfl,h2⟩
    ·
     refine sqW h1 ?_
     rw [chrs_true.2 h2];rfl
    ·
     refine sqW h1 ?_
     rw [h2];rfl
theorem Et_ (t:List Nod):uT t=some (if qC t=true then ((tyT t).1,(tyT t).2,true) else (0,0,false)):=by
 obtain ⟨x,h1,h2⟩:=Bv_ t
 refine bnd (AE_ h1) (stp ?_)
 cases hv:qC t with
 | false=>rfl
 | true=>
  obtain ⟨T,w,rfl,hw,hl⟩:=lQ hv
  have hp:=yF T
  have hr:=rM hw []
  obtain ⟨_,⟨_,_,s3,s4,_⟩,_⟩:=h2 _ hr (rng_true.2 (by omega))
  have ht:tyT (flat T)=w:=by unfold tyT;rw [hr]
  rw [ht]
  exact cFW rfl (bnd (a:=(((flat T).length-1:Nat):Int)) (by rw [fD (by omega) (by omega)];congr 1;omega) (bnd (pA s3) (bnd (pA s4) rfl)))
theorem wires_ (t:List Nod):∃ w,kP t=some (w,qC t)∧(qC t=true→w=tyT t):=by
 obtain ⟨w,h1,h2⟩:=E2_ t
 exact ⟨w,bnd h1 rfl,h2⟩
theorem pW {t:List Nod} (h:qC t=true):yT t=some (mH t)∧nN t=some (mH t):=by
 obtain ⟨T,w,rfl,h2,h3,h4⟩:=Hd_ h
 rw [h4]
 exact ⟨Bx_ 1000000 h2 h3 (by omega),IX_ h2 h3⟩
abbrev Rul:=ByteArray×List Nod×List Nod
def lI (r:Rul):Bool:=nmB r.1&&(qC r.2.1&&(qC r.2.2&&(decide ((tyT r.2.1).1=(tyT r.2.2).1)&&decide ((tyT r.2.1).2=(tyT r.2.2).2))))
noncomputable def pL (r:Rul):Bool:=lI r&&((mH r.2.1).2&&(mH r.2.2).2)
theorem Az_ {r:Rul} (h:lI r=true):nmB r.1=true∧qC r.2.1=true∧qC r.2.2=true∧(tyT r.2.1).1=(tyT r.2.2).1∧(tyT r.2.1).2=(tyT r.2.2).2:=by
 unfold lI at h
 simpa only [Bool.and_eq_true,decide_eq_true_eq] using h
theorem IF_ (r:Rul):cZ r=some (if lI r=true then ((mH r.2.1).1,(mH r.2.2).1,(mH r.2.1).2&&(mH r.2.2).2) else (noG,noG,false)):=by
 refine bnd (Et_ _) (bnd (Et_ _) (bnd (a:=!lI r) (bnd (lbName_ _) ?_) ?_))
 ·
  unfold lI
  cases nmB r.1 <;> cases qC r.2.1 <;> cases qC r.2.2 <;> try rfl
  simp only [if_true,Option.bind_some,Bool.not_true,cond_false,Bool.true_and]
  by_cases h1:(tyT r.2.1).1=(tyT r.2.2).1
  · simp [h1]
  · simp [h1]
 ·
  cases hh:lI r with
  | false=>rfl
  | true=>
   obtain ⟨_,v1,v2,_,_⟩:=Az_ hh
   refine cFW rfl (bnd (pW v1).1 (bnd (pW v2).1 ?_))
   cases h:(mH r.2.1).2 with
   | true=>rfl
   | false=>rfl
theorem rwIs_ (r:Rul):As_ r=some (pL r):=by
 refine bnd (IF_ r) ?_
 unfold pL
 cases lI r <;> rfl
theorem isRule_ (r:Rul):Ae_ r=some (pL r):=by
 obtain ⟨w1,a1,b1⟩:=wires_ r.2.1
 obtain ⟨w2,a2,b2⟩:=wires_ r.2.2
 refine bnd a1 (bnd a2 (bnd (a:=!lI r) ?_ ?_))
 ·
  unfold lI
  cases hv1:qC r.2.1 with
  | false=>cases nmB r.1 <;> rfl
  | true=>
   cases hv2:qC r.2.2 with
   | false=>cases nmB r.1 <;> rfl
   | true=>
    rw [b1 hv1,b2 hv2]
    refine stp (cFW rfl (stp (cFW rfl (stp ?_))))
    by_cases h1:(tyT r.2.1).1=(tyT r.2.2).1
    ·
     by_cases h2:(tyT r.2.1).2=(tyT r.2.2).2
     ·
      refine cFW (nT (dT (by rw [h1,h2]))) (bnd (isName_ _) (stp ?_))
      rw [h1,h2];simp
     ·
      refine cTW (nF (dF (by simp [h1,h2]))) ?_
      simp [h2]
    ·
     refine cTW (nF (dF (by simp [h1]))) ?_
     simp [h1]
 ·
  unfold pL
  cases hh:lI r with
  | false=>rfl
  | true=>
   obtain ⟨_,v1,v2,_,_⟩:=Az_ hh
   refine cFW rfl (bnd (pW v1).2 (bnd (pW v2).2 ?_))
   cases h:(mH r.2.1).2 <;> rfl
def ovN (p:Int) (n:Nod):Bool:=!(decide (n.1=7∨n.1=13)&&decide (p≤n.2.1))
def ovB (p:Int) (t:List Nod):Bool:=qC t&&(fdB p&&t.all (ovN p))
theorem Im_ (k:Int):lN k=some (decide (k=7∨k=13)):=by
 unfold lN
 by_cases h1:k=7
 · simp [h1]
 · by_cases h2:k=13 <;> simp [h1,h2]
theorem Bd_ (p:Int) (t:List Nod):zP p t=some (ovB p t):=by
 obtain ⟨x,h1,_⟩:=Bv_ t
 unfold ovB
 refine bnd (AE_ h1) ?_
 cases hv:qC t with
 | false=>rfl
 | true=>
  cases hf:fdB p with
  | false=>exact bnd (a:=true) (stp (cFW rfl (bnd (BS_ p) (stp (by rw [hf];rfl))))) rfl
  | true=>
   refine bnd (a:=false) (stp (cFW rfl (bnd (BS_ p) (stp (by rw [hf];rfl))))) (cFW rfl ?_)
   refine sqW (nH (ovN p) t 0 ?_ (t:=false)) ?_
   ·
    intro j n hj
    rw [Nat.zero_add]
    refine bnd (pA hj) ?_
    unfold ovN
    by_cases k7:n.1=7
    · by_cases hp:p≤n.2.1 <;> simp [k7,hp]
    ·
     by_cases k13:n.1=13
     · by_cases hp:p≤n.2.1 <;> simp [k13,hp]
     · simp [k7,k13]
   · cases t.all (ovN p) <;> rfl
theorem Bw_ (p:Int) (t:List Nod):iP t p=some (ovB p t):=by
 unfold ovB
 cases hf:fdB p with
 | false=>
  refine (bnd (a:=true) (bnd (A6_ p) (stp (by rw [hf];rfl))) rfl:_=some false).trans ?_
  cases qC t <;> rfl
 | true=>
  cases hv:qC t with
  | false=>exact bnd (a:=true) (bnd (A6_ p) (stp (by rw [hf];exact cFW rfl (bnd (D4_ t) (stp (by rw [hv];rfl)))))) rfl
  | true=>
   refine bnd (a:=false) (bnd (A6_ p) (stp (by rw [hf];exact cFW rfl (bnd (D4_ t) (stp (by rw [hv];rfl)))))) (cFW rfl ?_)
   refine sqW (nH (ovN p) t 0 ?_ (t:=false)) ?_
   ·
    intro j n hj
    rw [Nat.zero_add]
    refine bnd (pA hj) ?_
    have hh:=Im_ n.1
    unfold ovN
    by_cases k:n.1=7∨n.1=13
    · by_cases hp:p≤n.2.1 <;> simp [hh,k,hp]
    · simp [hh,k]
   · cases t.all (ovN p) <;> rfl
noncomputable def wI (p:Int) (r:Rul):Bool:=pL r&&(ovB p r.2.1&&ovB p r.2.2)
theorem Da_ (p:Int) (r:Rul):Af_ p r=some (wI p r):=by
 refine bnd (a:=wI p r) (bnd (isRule_ r) ?_) rfl
 unfold wI
 cases pL r with
 | false=>rfl
 | true=>
  refine cTW rfl (bnd (Bw_ p r.2.1) ?_)
  cases ovB p r.2.1 with
  | false=>rfl
  | true=>exact cTW rfl (bnd (Bw_ p r.2.2) rfl)
end Go.Proofs.YtlggnmkelgplnaaGreatDoor
namespace Go.Proofs.YtlggnmkelgplnaaGreatDoor
theorem zU {p:Int}{a b:Nat}{G:Rows} (hf:fdB p=true) (hN:a+b≤1000) (hG:okM p (a+b) G) (hl:G.length≤10000):vK p (a:Int) (b:Int) G=some ((a:Int),(b:Int),eC p (a+b) G):=by
 have hred:=lV hf (Nat.le_refl (a+b)) (by omega) hG (by omega)
 refine bnd (a:=((a+b:Nat):Int)) (by rw [jB (by omega) (by omega)];congr 1) (bnd hred rfl)
def dG (l:Nat) (x:List Int):List Int:=x.drop l++x.take l
def swpE (l r:Nat):List Nat:=(List.range r).map (fun q=>l+q)++List.range l
theorem DN_ (l r:Nat):(swpE l r).length=r+l:=by simp [swpE]
theorem eW {l r:Nat}:∀ q∈swpE l r,q<l+r:=by
 intro q hq
 rcases List.mem_append.1 hq with h | h
 ·
  obtain ⟨t,ht,rfl⟩:=List.mem_map.1 h
  have:=List.mem_range.1 ht;omega
 · have:=List.mem_range.1 h;omega
theorem Ex_ {l r:Nat}{x:List Int} (h:x.length=l+r):dG l x=selR (swpE l r) x:=by
 refine tO (by simp [dG,selR,swpE,h]) (fun j hj=>?_)
 have hj2:j<r+l:=by simp [dG] at hj;omega
 rw [uO (by rw [DN_];exact hj2)]
 unfold dG swpE
 have ld:(x.drop l).length=r:=by simp;omega
 rw [el_app2,ld,List.getD_eq_getElem?_getD]
 by_cases c:j<r
 · rw [if_pos c,el_drop2,List.getElem?_append_left (by simpa using c),List.getElem?_map,List.getElem?_range c];rfl
 · rw [if_neg c,Ba_ (by omega),List.getElem?_append_right (by simpa using c),List.length_map,List.length_range,List.getElem?_range (by omega)];rfl
theorem Ir_ {p:Int}{l r:Nat}{B:Rows} (hf:fdB p=true) (hN:l+r≤1000) (hB:okM p (l+r) B) (hL:B.length≤1000):zY p ((l:Int),(r:Int),B)=some ((r:Int),(l:Int),eC p (r+l) (B.map (dG l))):=by
 have hm:iB=1099511627776:=rfl
 have e:xX ((l:Int),(r:Int),B) ((l:Int),(r:Int),B)=some (B.map (dG l)):=by
  refine bnd (yE (dG l) B [] (by simp;omega) (fun j x s hj hs=>?_)) rfl
  have hx:=(hB x (aD hj)).1
  have hjl:=(List.getElem?_eq_some_iff.1 hj).1
  have hjo:=xR (l:=[x.drop l,x.take l]) (by simp;omega)
  refine bnd (pA hj) (bnd (bnd (iO (l:=l) rfl (by omega)) (bnd (first_ (l:=l) rfl (by omega)) (bnd hjo rfl))) (bnd (vB (by simp at hs ⊢;omega)) ?_))
  simp [dG]
 have hok:okM p (r+l) (B.map (dG l)):=by
  intro y hy
  obtain ⟨x,hx,rfl⟩:=List.mem_map.1 hy
  obtain ⟨h1,h2⟩:=hB x hx
  refine ⟨by simp [dG];omega,fun z hz=>?_⟩
  rcases List.mem_append.1 hz with h | h
  · exact h2 z (List.mem_of_mem_drop h)
  · exact h2 z (List.mem_of_mem_take h)
 exact bnd e (bnd (zU hf (by omega) hok (by simp;omega)) rfl)
theorem swp_red {p:Int}{l r:Nat}{G:Rows} (hf:fdB p=true) (hG:okM p (l+r) G):eC p (r+l) ((eC p (l+r) G).map (dG l))=eC p (r+l) (G.map (dG l)):=by
 have hR:=lG hf hG
 obtain ⟨s1,s2⟩:=nM hf hG
 have m1:(eC p (l+r) G).map (dG l)=(eC p (l+r) G).map (selR (swpE l r)):=List.map_congr_left fun x hx=>Ex_ (hR.ok x hx).1
 have m2:G.map (dG l)=G.map (selR (swpE l r)):=List.map_congr_left fun x hx=>Ex_ (hG x hx).1
 rw [m1,m2,← DN_ l r]
 refine CS_ hf (wW eW hR.ok) (wW eW hG) (fun i hi=>?_) (fun i hi=>?_)
 ·
  rw [List.length_map] at hi
  rw [aX hi]
  exact AX_ eW (s1 i hi) (fun j hj=>by rw [uO hj])
 ·
  rw [List.length_map] at hi
  rw [aX hi]
  exact AX_ eW (s2 i hi) (fun j hj=>by rw [uO hj])
theorem Cr_ {k v:Int} (h:k=3∨k=4∨k=5∨k=6∨k=7):uS k v=some (kL k v):=by
 rcases h with rfl | rfl | rfl | rfl | rfl <;> rfl
theorem CT_ {k:Int} (h:9≤k∧k≤13):cT k=some (k-6):=by
 refine bnd (within_ k 3 8) ?_
 rw [show rng k 3 8=false from rng_false.2 (by omega)]
 refine cFW rfl (bnd (within_ k 9 14) ?_)
 rw [show rng k 9 14=true from rng_true.2 (by omega)]
 refine cTW rfl (bnd (fD (by omega) (by omega)) (bnd (jB (by omega) (by omega)) ?_))
 congr 1;omega
theorem Hn_ {p:Int}{n:Nod} (hf:fdB p=true) (h:lfB n=true) (h1:n.1≠1) (h2:n.1≠2) (h8:n.1≠8) (h14:n.1≠14) (hv:n.2.1<p) :
  zL p n=some ((kd n.1).1,(kd n.1).2,eC p ((kd n.1).1.toNat+(kd n.1).2.toNat) (kL n.1 n.2.1)):=by
 have hp:=dC hf
 obtain ⟨hr,h0⟩:=Bt_ h h1 h2
 obtain ⟨k,v,s⟩:=n
 dsimp only at *
 have hb:=rng_true.1 hr
 have hM:=qV hp hr h8 h14 ⟨h0,hv⟩
 by_cases h9:9≤k
 ·
  have hc:k=9∨k=10∨k=11∨k=12∨k=13:=by omega
  have hr6:rng (k-6) 3 14=true:=rng_true.2 (by omega)
  have hM6:=qV (p:=p) (k:=k-6) (v:=v) hp hr6 (by omega) (by omega) ⟨h0,hv⟩
  have hsw:(kd (k-6)).1=(kd k).2∧(kd (k-6)).2=(kd k).1∧(kL (k-6) v).map (dG (kd k).2.toNat)=kL k v:=by
   rcases hc with rfl | rfl | rfl | rfl | rfl <;> exact ⟨rfl,rfl,rfl⟩
  obtain ⟨a,b,hk,ha,hbb⟩:=rO k
  obtain ⟨w1,w2,w3⟩:=hsw
  rw [hk] at w1 w2 w3 hM ⊢
  dsimp only [Int.toNat_natCast] at w1 w2 w3 hM ⊢
  rw [w1,w2] at hM6
  simp only [Int.toNat_natCast] at hM6
  have hgw:=pP hr6
  have e6:kd (k-6)=((b:Int),(a:Int)):=Prod.ext w1 w2
  rw [e6] at hgw
  have hrel:=zU (a:=b) (b:=a) hf (by omega) hM6.g (by have:=hM6.gl;omega)
  have hR:=lG hf hM6.g
  have hcv:=Ir_ (l:=b) (r:=a) hf (by omega) hR.ok (by have:=jO hf hR;omega)
  rw [swp_red hf hM6.g,w3] at hcv
  refine stp (cFW (dF h1) (stp (cFW (dF h2) (stp (cTW (dT h9) (bnd (CT_ (by omega)) (bnd hgw (bnd (CT_ (by omega)) (bnd (Cr_ (by omega)) (bnd hrel (bnd hcv rfl)))))))))))
 ·
  obtain ⟨a,b,hk,ha,hbb⟩:=rO k
  have hgw:=pP hr
  rw [hk] at hM hgw ⊢
  dsimp only [Int.toNat_natCast] at hM ⊢
  have hrel:=zU (a:=a) (b:=b) hf (by omega) hM.g (by have:=hM.gl;omega)
  exact stp (cFW (dF h1) (stp (cFW (dF h2) (stp (cFW (dF h9) (bnd hgw (bnd (Cr_ (by omega)) (bnd hrel rfl))))))))
theorem AZ_ (p:Int) (n:Nat) (x:List Int):uH p n [] x:=fun i hi=>by simp at hi
theorem kW (p:Int) (n:Nat):okM p n []:=fun x hx=>by cases hx
def swG:Rows:=[[1,0,0,1],[0,1,1,0]]
theorem BI_ {p:Int} (hp:2≤p):okM p 4 swG:=by
 have b0:(0:Int)≤0∧(0:Int)<p:=⟨by omega,by omega⟩
 have b1:(0:Int)≤1∧(1:Int)<p:=⟨by omega,by omega⟩
 exact okM2 (vE rfl (zC b1 (zC b0 (zC b0 (wE b1))))) (vE rfl (zC b0 (zC b1 (zC b1 (wE b0)))))
theorem j4 {P:Nat→Prop} (h0:P 0) (h1:P 1) (h2:P 2) (h3:P 3):∀ j,j<4→P j:=fun j hj=>by
 match j,hj with
 | 0,_=>exact h0
 | 1,_=>exact h1
 | 2,_=>exact h2
 | 3,_=>exact h3
theorem swap_eq {p:Int} (hf:fdB p=true):eC p 4 ((fG p 2 []).map (selR [0,1,1,0]))=eC p 4 swG:=by
 have hp:=dC hf
 refine Bu_ (W:=2) (ends:=[0,1,1,0]) hf (by decide) (kW p 2) (BI_ hp.1) (fun v _=>⟨fun i=>el v i,j4 ?_ ?_ ?_ ?_⟩) (j2 ⟨[1,0],AZ_ _ _ _,j4 rfl rfl rfl rfl⟩ ⟨[0,1],AZ_ _ _ _,j4 rfl rfl rfl rfl⟩)
 ·
  show _=sg 2 _ % p
  rw [sg2]
  show el v 0 % p=(el v 0*1+el v 1*0) % p
  simp
 ·
  show _=sg 2 _ % p
  rw [sg2]
  show el v 1 % p=(el v 0*0+el v 1*1) % p
  simp
 ·
  show _=sg 2 _ % p
  rw [sg2]
  show el v 1 % p=(el v 0*0+el v 1*1) % p
  simp
 ·
  show _=sg 2 _ % p
  rw [sg2]
  show el v 0 % p=(el v 0*1+el v 1*0) % p
  simp
theorem HX_ {p v:Int}{s:ByteArray} (hf:fdB p=true) (h:lfB (2,v,s)=true):fM p (2,v,s)=some (2,2,eC p 4 swG)∧zL p (2,v,s)=some (2,2,eC p 4 swG):=by
 have hp:=dC hf
 have hm:iB=1099511627776:=rfl
 have hD:=Bb_ (p:=p) (W:=2) (a:=2) (b:=2) (E:=[]) (I:=[0,1]) (O:=[1,0]) (ends:=[0,1,1,0]) (eqs:=[]) hf (by decide) (fun e he=>by cases he) rfl rfl rfl (by decide) (kW p 2) (by simp) rfl
 rw [swap_eq hf] at hD
 have hL:=rW h
 have hrel:=zU (a:=2) (b:=2) (G:=swG) hf (by omega) (BI_ hp.1) (by decide)
 exact ⟨bnd hL (bnd hD rfl),stp (cFW rfl (stp (cTW rfl (bnd hrel rfl))))⟩
def idP (n:Nat):Rows:=(List.range n).map fun i=>gE n i++gE n i
theorem idP_gr {n i:Nat} (h:i<n):gr (idP n) i=gE n i++gE n i:=by
 unfold gr idP
 rw [List.getD_eq_getElem?_getD,List.getElem?_map,List.getElem?_range h];rfl
theorem DI_ (n i:Nat):(gE n i).length=n:=by simp [gE]
theorem sO {n i j:Nat} (hi:i<n) (hj:j<n+n):el (gr (idP n) i) j=if i=(if j<n then j else j-n) then 1 else 0:=by
 rw [idP_gr hi,el_app2,DI_]
 by_cases c:j<n
 · rw [if_pos c,if_pos c,dL hi]
 · rw [if_neg c,if_neg c,dL hi]
theorem idP_len (n:Nat):(idP n).length=n:=by simp [idP]
theorem EK_ {p:Int} (hp:2≤p) (n:Nat):Red p (n+n) (idP n):=by
 have lead:∀ i,i<n→leadN (gr (idP n) i)=i:=fun i hi=>by
  refine A3_ (fun j hj=>?_) ?_
  · rw [sO hi (by omega),show (if j<n then j else j-n)=j from if_pos (by omega)];exact if_neg (by omega)
  · rw [sO hi (by omega),if_pos hi,if_pos rfl];decide
 refine ⟨fun r hr=>?_,fun i hi=>?_,fun i hi=>?_,fun i j hi hj hne=>?_,fun i j hij hj=>?_⟩
 ·
  obtain ⟨i,hi,rfl⟩:=List.mem_map.1 hr
  exact Bj_ (eV hp n i) (eV hp n i)
 ·
  rw [idP_len] at hi
  rw [lead i hi];omega
 ·
  rw [idP_len] at hi
  rw [lead i hi,sO hi (by omega),if_pos hi,if_pos rfl]
 ·
  rw [idP_len] at hi hj
  rw [lead i hi,sO hj (by omega),if_pos hi,if_neg (fun e=>hne e.symm)]
 ·
  rw [idP_len] at hj
  rw [lead i (by omega),lead j hj];exact hij
def dblE (n:Nat):List Nat:=List.range n++List.range n
theorem Ei_ {n j:Nat} (h:j<n+n):(dblE n).getD j 0=if j<n then j else j-n:=by
 unfold dblE
 rw [List.getD_eq_getElem?_getD]
 by_cases c:j<n
 · rw [if_pos c,List.getElem?_append_left (by simpa using c),List.getElem?_range c];rfl
 · rw [if_neg c,List.getElem?_append_right (by simpa using c),List.length_range,List.getElem?_range (by omega)];rfl
theorem sg_unit (n:Nat) (f:Nat→Int){q:Nat} (h:q<n):sg n (fun i=>f i*(if i=q then 1 else 0))=f q:=by
 rw [dI h (fun i _ hne=>by rw [if_neg hne,Int.mul_zero]),if_pos rfl,Int.mul_one]
theorem id_eq {p:Int} (hf:fdB p=true) (n:Nat):eC p (n+n) ((fG p n []).map (selR (dblE n)))=idP n:=by
 have hp:=dC hf
 have hR:=EK_ hp.1 n
 have hl:(dblE n).length=n+n:=by simp [dblE]
 have hlt:∀ q∈dblE n,q<n:=fun q hq=>by
  rcases List.mem_append.1 hq with h | h <;> exact List.mem_range.1 h
 rw [←Dq_ hf hR,← hl]
 have hok:okM p (dblE n).length (idP n):=by rw [hl];exact hR.ok
 refine Bu_ hf hlt (kW p n) hok (fun v _=>⟨fun i=>el v i,fun j hj=>?_⟩) (fun i hi=>?_)
 ·
  rw [hl] at hj
  rw [uO (by rw [hl];exact hj),Ei_ hj,idP_len,cD (g:=fun i=>el v i*(if i=(if j<n then j else j-n) then 1 else 0)) (fun i hi=>by rw [sO hi hj]),sg_unit n (fun i=>el v i) (by split <;> omega)]
 ·
  rw [idP_len] at hi
  refine ⟨gE n i,AZ_ _ _ _,fun j hj=>?_⟩
  rw [hl] at hj
  rw [Ei_ hj,sO hi hj,dL hi]
theorem id_both {p:Int}{s:ByteArray}{n:Nat} (hf:fdB p=true) (hn:n≤12) (h:lfB (1,(n:Int),s)=true):fM p (1,(n:Int),s)=some ((n:Int),(n:Int),idP n)∧zL p (1,(n:Int),s)=some ((n:Int),(n:Int),idP n):=by
 have hp:=dC hf
 have hm:iB=1099511627776:=rfl
 have hG:=(sV h).1
 have eG:pG (1,(n:Int),s)=((n:Int),[],ugL n,ugL n):=by unfold pG;dsimp only;rw [if_pos rfl,Int.toNat_natCast]
 have hL:=rW h
 rw [eG] at hL hG
 have hD:=Bb_ (p:=p) (W:=n) (a:=n) (b:=n) (E:=[]) (I:=ugL n) (O:=ugL n) (ends:=dblE n) (eqs:=[]) hf hG (fun e he=>by cases he) (ugL_len n) (ugL_len n) (by unfold dblE ugL;rw [List.map_append]) (fun q hq=>by
  rcases List.mem_append.1 hq with h | h <;> exact List.mem_range.1 h) (kW p n) (by simp) rfl
 rw [id_eq hf] at hD
 refine ⟨bnd hL (bnd hD rfl),stp (cTW rfl (bnd (bnd (gJ ⟨by dsimp only;omega,by dsimp only;omega⟩) (bnd (a:=idP n) ?_ rfl)) rfl))⟩
 rw [Int.toNat_natCast]
 have loop:=iD (f:=fun (k8:Nat) (s71:List (List Int))=>
   (mM (n:Int) ((k8:Nat):Int)).bind fun y85=>
   (mM (n:Int) ((k8:Nat):Int)).bind fun y90=>
   (jH [y85,y90]).bind fun y98=>
   (tA s71 [y98]).bind fun a106=>
   some a106) (n:=n) (fun j=>(List.range j).map fun i=>gE n i++gE n i) (fun j hj=>by
  have hjo:=xR (l:=[gE n j,gE n j]) (by simp [DI_];omega)
  refine bnd (unit_ hj (by omega)) (bnd (unit_ hj (by omega)) (bnd hjo (bnd (vB (by simp;omega)) ?_)))
  rw [List.range_succ,List.map_append];simp)
 exact loop
end Go.Proofs.YtlggnmkelgplnaaGreatDoor
namespace Go.Proofs.YtlggnmkelgplnaaGreatDoor
def kI (p:Int) (n:Nod):Rel:=
 if n.1=1 then (n.2.1,n.2.1,idP n.2.1.toNat) else if n.1=2 then (2,2,eC p 4 swG) else ((kd n.1).1,(kd n.1).2,eC p ((kd n.1).1.toNat+(kd n.1).2.toNat) (kL n.1 n.2.1))
def uF (n:Nod):Bool:=decide (n.1≠8∧n.1≠14)
structure RelOk (p:Int) (w:Int×Int) (R:Rel):Prop where
 l:R.1=w.1
 r:R.2.1=w.2
 red:Red p (w.1.toNat+w.2.toNat) R.2.2
theorem BN_ {p:Int}{n:Nod} (hf:fdB p=true) (h:lfB n=true) (ht:uF n=true) (ho:ovN p n=true):RelOk p (lfT n) (kI p n)∧fM p n=some (kI p n)∧zL p n=some (kI p n):=by
 have hp:=dC hf
 have ht:=of_decide_eq_true ht
 by_cases h1:n.1=1
 ·
  have hv:=yW h h1
  obtain ⟨k,v,s⟩:=n
  dsimp only at h1 hv
  subst h1
  obtain ⟨m,rfl⟩:∃ m:Nat,v=(m:Int):=⟨v.toNat,by omega⟩
  have e:kI p (1,(m:Int),s)=((m:Int),(m:Int),idP m):=by unfold kI;dsimp only;rw [if_pos rfl,Int.toNat_natCast]
  rw [e]
  have:=id_both (n:=m) hf (by omega) h
  exact ⟨⟨rfl,rfl,by show Red p ((m:Int).toNat+(m:Int).toNat) _;rw [Int.toNat_natCast];exact EK_ hp.1 m⟩,this.1,this.2⟩
 by_cases h2:n.1=2
 ·
  obtain ⟨k,v,s⟩:=n
  dsimp only at h2
  subst h2
  have:=HX_ hf h
  exact ⟨⟨rfl,rfl,lG (n:=4) hf (BI_ hp.1)⟩,this.1,this.2⟩
 have hg:=Bt_ h h1 h2
 have hv:n.2.1<p:=by
  unfold ovN at ho
  by_cases hs:n.1=7∨n.1=13
  ·
   rw [dT hs,Bool.true_and] at ho
   by_cases hq:p≤n.2.1
   · rw [dT hq] at ho;cases ho
   · omega
  ·
   unfold lfB at h
   simp only [Bool.and_eq_true] at h
   have h3:=h.2.2
   rw [if_neg h1,if_neg hs] at h3
   have:=of_decide_eq_true h3
   omega
 have e:kI p n=((kd n.1).1,(kd n.1).2,eC p ((kd n.1).1.toNat+(kd n.1).2.toNat) (kL n.1 n.2.1)):=by unfold kI;rw [if_neg h1,if_neg h2]
 have eT:lfT n=kd n.1:=by unfold lfT;rw [if_neg h1]
 rw [e,eT]
 exact ⟨⟨rfl,rfl,lG hf (qV hp hg.1 ht.1 ht.2 ⟨hg.2,hv⟩).g⟩,HM_ hf h h1 h2 ht.1 ht.2 hv,Hn_ hf h h1 h2 ht.1 ht.2 hv⟩
def fJ (p k:Int) (x y:Rel):Rel:=
 if k=15 then (x.1,y.2.1,cmpR p x.1.toNat x.2.1.toNat y.2.1.toNat x.2.2 y.2.2) else (x.1+y.1,x.2.1+y.2.1,tenR p x.1.toNat x.2.1.toNat y.1.toNat y.2.1.toNat x.2.2 y.2.2)
theorem BT_ {p k:Int}{x y:Rel}{u v w:Int×Int} (hf:fdB p=true) (hu:cG u) (hv:cG v) (hx:RelOk p u x) (hy:RelOk p v y) (h:jn k u v=some w) :
  RelOk p w (fJ p k x y)∧(k=15→lP p x y=some (fJ p k x y)∧tP p x y=some (fJ p k x y))∧(k≠15→rP p x y=some (fJ p k x y)∧fQ p x y=some (fJ p k x y)):=by
 have hp:=dC hf
 obtain ⟨u1,u2⟩:=u
 obtain ⟨v1,v2⟩:=v
 obtain ⟨a1,a2,a3,a4⟩:=hu
 obtain ⟨b1,b2,b3,b4⟩:=hv
 obtain ⟨x1,x2,A⟩:=x
 obtain ⟨y1,y2,B⟩:=y
 obtain ⟨e1,e2,rA⟩:=hx
 obtain ⟨e3,e4,rB⟩:=hy
 dsimp only at a1 a2 a3 a4 b1 b2 b3 b4 e1 e2 e3 e4 rA rB
 subst e1 e2 e3 e4
 obtain ⟨l,rfl⟩:∃ l:Nat,x1=(l:Int):=⟨x1.toNat,by omega⟩
 obtain ⟨m,rfl⟩:∃ m:Nat,x2=(m:Int):=⟨x2.toNat,by omega⟩
 obtain ⟨q,rfl⟩:∃ q:Nat,y1=(q:Int):=⟨y1.toNat,by omega⟩
 obtain ⟨r,rfl⟩:∃ r:Nat,y2=(r:Int):=⟨y2.toNat,by omega⟩
 simp only [Int.toNat_natCast] at rA rB
 have lA:=jO hf rA
 have lB:=jO hf rB
 unfold jn at h
 unfold fJ
 simp only [Int.toNat_natCast]
 by_cases hk:k=15
 ·
  rw [if_pos hk] at h ⊢
  split at h
  ·
   rename_i hm
   obtain rfl:=Option.some.inj h
   have hm:(m:Int)=(q:Int):=hm
   obtain rfl:q=m:=by omega
   refine ⟨⟨rfl,rfl,?_⟩,fun _=>⟨Hx_ hf (by omega) (by omega) (by omega) rA.ok rB.ok (by omega) (by omega),Is_ hf (by omega) (by omega) (by omega) rA.ok rB.ok (by omega) (by omega)⟩,fun h=>(h hk).elim⟩
   show Red p ((l:Int).toNat+(r:Int).toNat) _
   rw [Int.toNat_natCast,Int.toNat_natCast]
   exact lG hf (BC_ hf rA.ok rB.ok)
  · cases h
 ·
  rw [if_neg hk] at h ⊢
  split at h
  ·
   obtain rfl:=Option.some.inj h
   have t1:=H7_ hf (l1:=l) (r1:=m) (l2:=q) (r2:=r) (by omega) (by omega) (by omega) (by omega) rA.ok rB.ok (by omega) (by omega)
   have t2:=tensor_ hf (l1:=l) (r1:=m) (l2:=q) (r2:=r) (by omega) (by omega) (by omega) (by omega) rA.ok rB.ok (by omega) (by omega)
   refine ⟨⟨rfl,rfl,?_⟩,fun h=>(hk h).elim,fun _=>⟨t1,t2⟩⟩
   show Red p (((l:Int)+(q:Int)).toNat+((m:Int)+(r:Int)).toNat) _
   rw [show ((l:Int)+(q:Int)).toNat=l+q by omega,show ((m:Int)+(r:Int)).toNat=m+r by omega]
   exact lG hf (Be_ hp.1 rA.ok rB.ok)
  · cases h
def vH (p:Int):Tr→Rel
 | .leaf n=>kI p n
 | .node k a b=>fJ p k (vH p a) (vH p b)
def okT (p:Int) (T:Tr):Prop:=∀ n∈flat T,uF n=true∧ovN p n=true
theorem yI:∀ {T:Tr}{w:Int×Int},zD T=some w→cG w
 | .leaf n,w,h=>by obtain ⟨h1,rfl⟩:=fL h;exact Fh_ h1
 | .node k a b,w,h=>by
  obtain ⟨_,x,y,h1,h2,h3⟩:=wJ h
  exact jn_ok (yI h1) (yI h2) h3
theorem nL {p:Int} (hf:fdB p=true):∀ {T:Tr}{w:Int×Int},zD T=some w→okT p T→RelOk p w (vH p T)
 | .leaf n,w,h,ho=>by
  obtain ⟨h1,rfl⟩:=fL h
  have:=ho n (by simp [flat])
  exact (BN_ hf h1 this.1 this.2).1
 | .node k a b,w,h,ho=>by
  obtain ⟨_,x,y,h1,h2,h3⟩:=wJ h
  exact (BT_ hf (yI h1) (yI h2) (nL hf h1 (fun n hn=>ho n (by simp [flat,hn]))) (nL hf h2 (fun n hn=>ho n (by simp [flat,hn]))) h3).1
end Go.Proofs.YtlggnmkelgplnaaGreatDoor
namespace Go.Proofs.YtlggnmkelgplnaaGreatDoor
def rG (T:Tr):Bool:=(flat T).all uF
def noR:Rel:=(0,0,[])
noncomputable def nS (p:Int) (t:List Nod) (k11:Nat) (s299:List Rel):Option (List Rel):=
   (idxO t ((k11:Nat):Int)).bind fun a315=>
   (subO ((s299.length:Nat):Int) 1).bind fun a323=>
   (some (decide (a315.1=15))).bind fun a325=>
   cond a325
   ((subO a323 1).bind fun a401=>
    (subO a323 1).bind fun a403=>
    (idxO s299 a403).bind fun a411=>
    (idxO s299 a323).bind fun a423=>
    (aB s299 0 a401).bind fun a429=>
    (tP p (a411.1,a411.2.1,a411.2.2) (a423.1,a423.2.1,a423.2.2)).bind fun y433=>
    (tA a429 [(y433.1,y433.2.1,y433.2.2)]).bind fun a445=>
    some a445)
   ((some (decide (a315.1=16))).bind fun a328=>
    cond a328
    ((subO a323 1).bind fun a350=>
     (subO a323 1).bind fun a352=>
     (idxO s299 a352).bind fun a360=>
     (idxO s299 a323).bind fun a372=>
     (aB s299 0 a350).bind fun a378=>
     (fQ p (a360.1,a360.2.1,a360.2.2) (a372.1,a372.2.1,a372.2.2)).bind fun y382=>
     (tA a378 [(y382.1,y382.2.1,y382.2.2)]).bind fun a394=>
     some a394)
    ((zL p (a315.1,a315.2.1,a315.2.2)).bind fun y331=>
     (tA s299 [(y331.1,y331.2.1,y331.2.2)]).bind fun a343=>
     some a343))
theorem top2 {s:List Rel}{x y:Rel} (hs:s.length≤1000):(s++[x]++[y]).length=s.length+2∧subO (((s++[x]++[y]).length:Nat):Int) 1=some ((s.length+1:Nat):Int)∧subO ((s.length+1:Nat):Int) 1=some ((s.length:Nat):Int) ∧
  subO (((s++[x]++[y]).length:Nat):Int) 2=some ((s.length:Nat):Int)∧idxO (s++[x]++[y]) ((s.length:Nat):Int)=some x∧idxO (s++[x]++[y]) ((s.length+1:Nat):Int)=some y∧aB (s++[x]++[y]) 0 ((s.length:Nat):Int)=some s:=by
 have hlen:(s++[x]++[y]).length=s.length+2:=by simp
 refine ⟨hlen,by rw [hlen,fD (by omega) (by omega)];congr 1;omega,by rw [fD (by omega) (by omega)];congr 1;omega,by rw [hlen,fD (by omega) (by omega)];congr 1;omega,?_,?_,?_⟩
 · rw [idxO_nat,List.append_assoc,List.getElem?_append_right (Nat.le_refl _),Nat.sub_self];rfl
 · rw [idxO_nat,List.append_assoc,List.getElem?_append_right (by omega),Nat.add_sub_cancel_left];rfl
 ·
  unfold aB;rw [if_pos ⟨by omega,by omega,by rw [hlen];omega⟩,List.append_assoc]
  simp
theorem HO_ {p:Int}{t:List Nod}{j:Nat}{n:Nod}{s:List Rel} (hf:fdB p=true) (ht:t[j]?=some n) (hn:lfB n=true) (h1:uF n=true) (h2:ovN p n=true) (hs:s.length≤1000):nS p t j s=some (s++[kI p n]):=by
 have hm:iB=1099511627776:=rfl
 have hk:=qL hn
 exact bnd (pA ht) (bnd (fD (by omega) (by omega)) (stp (cFW (dF (by omega)) (stp (cFW (dF (by omega)) (bnd (BN_ hf hn h1 h2).2.2 (bnd (vB (by simp;omega)) rfl)))))))
theorem HN_ {p:Int}{t:List Nod}{j:Nat}{k:Int}{s:List Rel}{x y:Rel}{u v w:Int×Int} (hf:fdB p=true) (ht:t[j]?=some (k,0,.empty)) (hk:k=15∨k=16) (hs:s.length≤1000) (hu:cG u) (hv:cG v) (hx:RelOk p u x) (hy:RelOk p v y) (h:jn k u v=some w) :
  nS p t j (s++[x]++[y])=some (s++[fJ p k x y]):=by
 have hm:iB=1099511627776:=rfl
 obtain ⟨q1,q2,q3,_,q5,q6,q7⟩:=top2 (s:=s) (x:=x) (y:=y) hs
 obtain ⟨_,c1,c2⟩:=BT_ hf hu hv hx hy h
 refine bnd (pA ht) (bnd q2 ?_)
 by_cases h15:k=15
 · exact stp (cTW (dT h15) (bnd q3 (bnd q3 (bnd q5 (bnd q6 (bnd q7 (bnd (c1 h15).2 (bnd (vB (by simp;omega)) rfl))))))))
 · exact stp (cFW (dF h15) (stp (cTW (dT (by dsimp only;omega)) (bnd q3 (bnd q3 (bnd q5 (bnd q6 (bnd q7 (bnd (c2 h15).2 (bnd (vB (by simp;omega)) rfl))))))))))
theorem Db_ {σ:Type}{f:Nat→σ→Option σ}{n k:Nat}{s s':σ} (h:f k s=some s'):forS f (n+1) k s=forS f n (k+1) s':=by
 show (f k s).bind _=_
 rw [h];rfl
theorem Bc_ {p:Int} (hf:fdB p=true){t:List Nod} (ht:t.length≤400):∀ {T:Tr}{w:Int×Int},zD T=some w→okT p T→∀ (pre q:List Nod) (r:List Rel),t=pre++(flat T++q)→r.length≤pre.length →
  forS (nS p t) ((flat T).length+q.length) pre.length r=forS (nS p t) q.length (pre.length+(flat T).length) (r++[vH p T])
 | .leaf n,w,h,ho,pre,q,r,e,hr=>by
  obtain ⟨h1,rfl⟩:=fL h
  have hlt:pre.length<t.length:=by rw [e];simp [flat]
  have hn:t[pre.length]?=some n:=by rw [e,List.getElem?_append_right (Nat.le_refl _),Nat.sub_self];rfl
  have h2:=ho n (by simp [flat])
  rw [show (flat (.leaf n)).length+q.length=q.length+1 by simp [flat];omega,Db_ (HO_ hf hn h1 h2.1 h2.2 (by omega))]
  rfl
 | .node k a b,w,h,ho,pre,q,r,e,hr=>by
  obtain ⟨hk,x,y,h1,h2,h3⟩:=wJ h
  have oa:okT p a:=fun n hn=>ho n (by simp [flat,hn])
  have ob:okT p b:=fun n hn=>ho n (by simp [flat,hn])
  have hlen:(flat (.node k a b)).length=(flat a).length+(flat b).length+1:=by simp [flat];omega
  have htl:t.length=pre.length+((flat a).length+(flat b).length+1+q.length):=by rw [e,List.length_append,List.length_append,hlen]
  have ea:t=pre++(flat a++(flat b++([((k,(0:Int),ByteArray.empty):Nod)]++q))):=by rw [e];simp [flat]
  have eb:t=(pre++flat a)++(flat b++([((k,(0:Int),ByteArray.empty):Nod)]++q)):=by rw [ea];simp
  have hpa:=yF a
  have la:=Bc_ hf ht h1 oa pre (flat b++([((k,(0:Int),ByteArray.empty):Nod)]++q)) r ea hr
  have lb:=Bc_ hf ht h2 ob (pre++flat a) ([((k,(0:Int),ByteArray.empty):Nod)]++q) (r++[vH p a]) eb (by simp;omega)
  rw [show (pre++flat a).length=pre.length+(flat a).length from List.length_append] at lb
  rw [show (flat (.node k a b)).length+q.length=(flat a).length+(flat b++([((k,(0:Int),ByteArray.empty):Nod)]++q)).length by rw [hlen];simp;omega,la,
   show (flat b++([((k,(0:Int),ByteArray.empty):Nod)]++q)).length=(flat b).length+([((k,(0:Int),ByteArray.empty):Nod)]++q).length from List.length_append,lb]
  have hn:t[pre.length+(flat a).length+(flat b).length]?=some (k,0,.empty):=by
   rw [show t=(pre++flat a++flat b)++([((k,(0:Int),ByteArray.empty):Nod)]++q) by rw [ea];simp,List.getElem?_append_right (by simp;omega)]
   simp [Nat.add_assoc]
  have st:=HN_ (s:=r) hf hn hk (by omega) (yI h1) (yI h2) (nL hf h1 oa) (nL hf h2 ob) h3
  rw [show ([((k,(0:Int),ByteArray.empty):Nod)]++q).length=q.length+1 by simp,Db_ st,hlen,show pre.length+((flat a).length+(flat b).length+1)=pre.length+(flat a).length+(flat b).length+1 by omega]
  rfl
theorem denote_ {p:Int} (hf:fdB p=true){T:Tr}{w:Int×Int} (h:zD T=some w) (ho:okT p T) (hl:(flat T).length≤400):tN p (flat T)=some (vH p T):=by
 have loop:=Bc_ hf hl h ho [] [] [] (by simp) (by simp)
 rw [List.length_nil,Nat.add_zero,Nat.zero_add,List.nil_append] at loop
 have e:tN p (flat T)=(forS (nS p (flat T)) (flat T).length 0 []).bind fun s452=>(idxO s452 0).bind fun a461=>some (a461.1,a461.2.1,a461.2.2):=rfl
 rw [e,loop];rfl
noncomputable def iX (p:Int) (t:List Nod) (k14:Nat) (s16808:List Rel):Option (List Rel⊕(Rel×Bool)):=
    fC ((idxO t ((k14:Nat):Int)).bind fun a20937=>
     (uK a20937.1).bind fun y20945=>
     (some (!y20945)).bind fun a20948=>
     cond a20948
     (some (.inr (.inr ((0,0,[]),false))))
     (((some (!decide (a20937.1=15))).bind fun a20963=>
       cond a20963
       ((some (!decide (a20937.1=16))).bind fun a20967=>
        some a20967)
       (some false)).bind fun (s20957:Bool)=>
      cond s20957
      ((fM p (a20937.1,a20937.2.1,a20937.2.2)).bind fun y25017=>
       (tA s16808 [(y25017.1,y25017.2.1,y25017.2.2)]).bind fun a25029=>
       some (.inl a25029))
      (((subO ((s16808.length:Nat):Int) 2).bind fun a22977=>
        (idxO s16808 a22977).bind fun a23019=>
        (subO ((s16808.length:Nat):Int) 1).bind fun a22979=>
        (idxO s16808 a22979).bind fun a23071=>
        some (a23071.1,a23071.2.1,a23071.2.2,a23019.1,a23019.2.1,a23019.2.2)).bind fun (s22966:Int×Int×List (List Int)×Int×Int×List (List Int))=>
       (subO ((s16808.length:Nat):Int) 2).bind fun a24972=>
       (aB s16808 0 a24972).bind fun a24974=>
       (some (decide (a20937.1=15))).bind fun a24978=>
       cond a24978
       ((lP p (s22966.2.2.2.1,s22966.2.2.2.2.1,s22966.2.2.2.2.2) (s22966.1,s22966.2.1,s22966.2.2.1)).bind fun y24999=>
        (tA a24974 [(y24999.1,y24999.2.1,y24999.2.2)]).bind fun a25011=>
        some (.inl a25011))
       ((rP p (s22966.2.2.2.1,s22966.2.2.2.2.1,s22966.2.2.2.2.2) (s22966.1,s22966.2.1,s22966.2.2.1)).bind fun y24981=>
        (tA a24974 [(y24981.1,y24981.2.1,y24981.2.2)]).bind fun a24993=>
        some (.inl a24993))))) fun (s20924:List (Int×Int×List (List Int)))=>
    some (.inl s20924)
theorem Hw_ {p:Int}{t:List Nod}{j:Nat}{n:Nod}{s:List Rel} (hf:fdB p=true) (ht:t[j]?=some n) (hn:lfB n=true) (h2:ovN p n=true) (hs:s.length≤1000):iX p t j s=if uF n=true then some (.inl (s++[kI p n])) else some (.inr (noR,false)):=by
 have hm:iB=1099511627776:=rfl
 have hk:=qL hn
 have hT:uK n.1=some (uF n):=AF_ n.1
 cases h1:uF n with
 | false=>
  rw [h1] at hT
  exact sqW (r:=some (.inr (.inr (noR,false)))) (bnd (pA ht) (bnd hT rfl)) rfl
 | true=>
  rw [h1] at hT
  rw [if_pos rfl]
  refine sqW (r:=some (.inl (s++[kI p n]))) (bnd (pA ht) (bnd hT (stp (cFW rfl (bnd (a:=true) (stp (cTW (nF (dF (by omega))) (stp (congrArg some (nF (dF (by omega))))))) (cTW rfl (bnd (BN_ hf hn h1 h2).2.1 (bnd (vB (by simp;omega)) rfl)))))))) rfl
theorem Hv_ {p:Int}{t:List Nod}{j:Nat}{k:Int}{s:List Rel}{x y:Rel}{u v w:Int×Int} (hf:fdB p=true) (ht:t[j]?=some (k,0,.empty)) (hk:k=15∨k=16) (hs:s.length≤1000) (hu:cG u) (hv:cG v) (hx:RelOk p u x) (hy:RelOk p v y) (h:jn k u v=some w) :
  iX p t j (s++[x]++[y])=some (.inl (s++[fJ p k x y])):=by
 have hm:iB=1099511627776:=rfl
 obtain ⟨q1,q2,q3,q4,q5,q6,q7⟩:=top2 (s:=s) (x:=x) (y:=y) hs
 obtain ⟨_,c1,c2⟩:=BT_ hf hu hv hx hy h
 have hT:uK k=some true:=by rw [AF_,dT (by omega)]
 have hc:((some (!decide (k=15))).bind fun a20963=>cond a20963 ((some (!decide (k=16))).bind fun a20967=>some a20967) (some false))=some false:=by
  rcases hk with rfl | rfl <;> rfl
 refine sqW (r:=some (.inl (s++[fJ p k x y]))) (bnd (pA ht) (bnd hT (stp (cFW rfl (bnd hc (cFW rfl (bnd (bnd q4 (bnd q5 (bnd q2 (bnd q6 rfl)))) (bnd q4 (bnd q7 ?_))))))))) rfl
 by_cases h15:k=15
 · exact stp (cTW (dT h15) (bnd (c1 h15).1 (bnd (vB (by simp;omega)) rfl)))
 · exact stp (cFW (dF h15) (bnd (c2 h15).1 (bnd (vB (by simp;omega)) rfl)))
def ovT (p:Int) (T:Tr):Prop:=∀ n∈flat T,ovN p n=true
theorem HU_ (k:Int) (a b:Tr) (hk:k=15∨k=16):rG (.node k a b)=(rG a&&rG b):=by
 have:uF (k,0,.empty)=true:=dT (by dsimp only;omega)
 unfold rG
 simp [flat,List.all_append,this]
theorem Fc_ {p:Int}{T:Tr} (h1:rG T=true) (h2:ovT p T):okT p T:=fun n hn=>⟨List.all_eq_true.1 h1 n hn,h2 n hn⟩
theorem AI_ {p:Int} (hf:fdB p=true){t:List Nod} (ht:t.length≤400):∀ {T:Tr}{w:Int×Int},zD T=some w→ovT p T→∀ (pre q:List Nod) (r:List Rel),t=pre++(flat T++q)→r.length≤pre.length →
  nC (iX p t) ((flat T).length+q.length) pre.length r=if rG T=true then nC (iX p t) q.length (pre.length+(flat T).length) (r++[vH p T]) else some (.inr (noR,false))
 | .leaf n,w,h,ho,pre,q,r,e,hr=>by
  obtain ⟨h1,rfl⟩:=fL h
  have hlt:pre.length<t.length:=by rw [e];simp [flat]
  have hn:t[pre.length]?=some n:=by rw [e,List.getElem?_append_right (Nat.le_refl _),Nat.sub_self];rfl
  have st:=Hw_ (s:=r) hf hn h1 (ho n (by simp [flat])) (by omega)
  have e1:rG (.leaf n)=uF n:=by simp [rG,flat]
  rw [e1,show (flat (.leaf n)).length+q.length=q.length+1 by simp [flat];omega]
  cases hb:uF n with
  | true=>
   rw [hb,if_pos rfl] at st
   rw [if_pos rfl,xU st];rfl
  | false=>
   rw [hb] at st
   rw [if_neg (by simp),Dc_ (st.trans (if_neg (by simp)))]
 | .node k a b,w,h,ho,pre,q,r,e,hr=>by
  obtain ⟨hk,x,y,h1,h2,h3⟩:=wJ h
  have oa:ovT p a:=fun n hn=>ho n (by simp [flat,hn])
  have ob:ovT p b:=fun n hn=>ho n (by simp [flat,hn])
  have hlen:(flat (.node k a b)).length=(flat a).length+(flat b).length+1:=by simp [flat];omega
  have htl:t.length=pre.length+((flat a).length+(flat b).length+1+q.length):=by rw [e,List.length_append,List.length_append,hlen]
  have ea:t=pre++(flat a++(flat b++([((k,(0:Int),ByteArray.empty):Nod)]++q))):=by rw [e];simp [flat]
  have eb:t=(pre++flat a)++(flat b++([((k,(0:Int),ByteArray.empty):Nod)]++q)):=by rw [ea];simp
  have hpa:=yF a
  have la:=AI_ hf ht h1 oa pre (flat b++([((k,(0:Int),ByteArray.empty):Nod)]++q)) r ea hr
  rw [show (flat (.node k a b)).length+q.length=(flat a).length+(flat b++([((k,(0:Int),ByteArray.empty):Nod)]++q)).length by rw [hlen];simp;omega,la,HU_ k a b hk]
  cases ma:rG a with
  | false=>simp
  | true=>
   have e4:∀ {α:Type} (u v:α),(if true=true then u else v)=u:=fun u v=>if_pos rfl
   have lb:=AI_ hf ht h2 ob (pre++flat a) ([((k,(0:Int),ByteArray.empty):Nod)]++q) (r++[vH p a]) eb (by simp;omega)
   rw [show (pre++flat a).length=pre.length+(flat a).length from List.length_append] at lb
   rw [e4,show (flat b++([((k,(0:Int),ByteArray.empty):Nod)]++q)).length=(flat b).length+([((k,(0:Int),ByteArray.empty):Nod)]++q).length from List.length_append,lb]
   cases mb:rG b with
   | false=>simp
   | true=>
    have hn:t[pre.length+(flat a).length+(flat b).length]?=some (k,0,.empty):=by
     rw [show t=(pre++flat a++flat b)++([((k,(0:Int),ByteArray.empty):Nod)]++q) by rw [ea];simp,List.getElem?_append_right (by simp;omega)]
     simp [Nat.add_assoc]
    have st:=Hv_ (s:=r) hf hn hk (by omega) (yI h1) (yI h2) (nL hf h1 (Fc_ ma oa)) (nL hf h2 (Fc_ mb ob)) h3
    have e5:(true&&true)=true:=rfl
    rw [e4,e5,e4,show ([((k,(0:Int),ByteArray.empty):Nod)]++q).length=q.length+1 by simp,xU st,hlen,show pre.length+((flat a).length+(flat b).length+1)=pre.length+(flat a).length+(flat b).length+1 by omega]
    rfl
def vD (p:Int) (t:List Nod):Bool:=ovB p t&&t.all uF
open Classical in
noncomputable def yB (p:Int) (t:List Nod):Rel:=if h:qC t=true then vH p (Classical.choose (lQ h)) else noR
theorem BB_ {p:Int}{t:List Nod} (h:qC t=true):∃ T w,t=flat T∧zD T=some w∧t.length≤400∧yB p t=vH p T:=by
 obtain ⟨w,h1,h2,h3⟩:=Classical.choose_spec (lQ h)
 exact ⟨_,w,h1,h2,h3,by unfold yB;rw [dif_pos h]⟩
theorem A0_ {p:Int}{t:List Nod} (h:ovB p t=true):qC t=true∧fdB p=true∧∀ n∈t,ovN p n=true:=by
 unfold ovB at h
 simp only [Bool.and_eq_true] at h
 exact ⟨h.1,h.2.1,fun n hn=>List.all_eq_true.1 h.2.2 n hn⟩
theorem ET_ (p:Int) (t:List Nod):aU p t=some (if vD p t=true then (yB p t,true) else (noR,false)):=by
 refine bnd (Bd_ p t) (stp ?_)
 unfold vD
 cases ho:ovB p t with
 | false=>rfl
 | true=>
  obtain ⟨hv,hf,hn⟩:=A0_ ho
  obtain ⟨T,w,rfl,h2,h3,h4⟩:=BB_ (p:=p) hv
  rw [h4]
  have loop:=AI_ hf h3 h2 hn [] [] [] (by simp) (by simp)
  rw [List.length_nil,Nat.add_zero,Nat.zero_add,List.nil_append] at loop
  refine cFW rfl (sqW (r:=if rG T=true then some (.inl [vH p T]) else some (.inr (noR,false))) (loop.trans ?_) ?_)
  · cases rG T <;> rfl
  ·
   rw [Bool.true_and]
   show _=some (if rG T=true then (vH p T,true) else (noR,false))
   cases rG T <;> rfl
end Go.Proofs.YtlggnmkelgplnaaGreatDoor
namespace Go.Proofs.YtlggnmkelgplnaaGreatDoor
theorem bR (p:Int) (t:List Nod):vS t p=some (vD p t):=by
 refine bnd (Bw_ p t) (stp ?_)
 unfold vD
 cases ovB p t with
 | false=>rfl
 | true=>
  refine cFW rfl (sqW (nH uF t 0 (t:=false) (fun j n hj=>?_)) ?_)
  ·
   rw [Nat.zero_add]
   have hd:rT n.1=some (!uF n):=by
    unfold rT uF
    by_cases h1:n.1=8
    · simp [h1]
    · by_cases h2:n.1=14 <;> simp [h1,h2]
   refine bnd (pA hj) (bnd hd ?_)
   cases uF n <;> rfl
  · cases t.all uF <;> rfl
theorem vU {p:Int}{t:List Nod} (h:vD p t=true):fdB p=true∧∃ l r:Nat,l≤12∧r≤12∧RlOk p l r (yB p t)∧tN p t=some (yB p t):=by
 unfold vD at h
 rw [Bool.and_eq_true] at h
 obtain ⟨hv,hf,hn⟩:=A0_ h.1
 obtain ⟨T,w,rfl,h2,h3,h4⟩:=BB_ (p:=p) hv
 have ho:okT p T:=fun n hm=>⟨List.all_eq_true.1 h.2 n hm,hn n hm⟩
 have hd:=nL hf h2 ho
 obtain ⟨a1,a2,a3,a4⟩:=yI h2
 rw [h4]
 have hl:=jO hf hd.red
 exact ⟨hf,w.1.toNat,w.2.toNat,by omega,by omega,⟨hf,by rw [hd.l];omega,by rw [hd.r];omega,by omega,hd.red,hl⟩,denote_ hf h2 ho h3⟩
def twoS (p:Int) (a b:List Nod):Bool:=vD p a&&vD p b
noncomputable def iS (p:Int) (a b:List Nod):Bool:=decide ((yB p a).1=(yB p b).1)&&decide ((yB p a).2.1=(yB p b).2.1)
noncomputable def eH (p:Int) (a b:List Nod):Bool:=vD p a&&(vD p b&&iS p a b)
theorem HT_ (p:Int) (a b:List Nod):yY p a b=some (if twoS p a b=true then yB p a else noR,if twoS p a b=true then yB p b else noR,eH p a b):=by
 unfold eH iS twoS
 cases ha:vD p a with
 | false=>exact bnd (a:=true) (bnd (bR p a) (stp (by rw [ha];rfl))) rfl
 | true=>
  cases hb:vD p b with
  | false=>exact bnd (a:=true) (bnd (bR p a) (stp (by rw [ha];exact cFW rfl (bnd (bR p b) (stp (by rw [hb];rfl)))))) rfl
  | true=>
   obtain ⟨_,_,_,_,_,_,da⟩:=vU ha
   obtain ⟨_,_,_,_,_,_,db⟩:=vU hb
   refine bnd (a:=false) (bnd (bR p a) (stp (by rw [ha];exact cFW rfl (bnd (bR p b) (stp (by rw [hb];rfl)))))) (cFW rfl ?_)
   refine bnd (bnd da (bnd db rfl)) ?_
   by_cases h1:(yB p a).1=(yB p b).1
   ·
    refine bnd (stp (cTW (dT h1) rfl)) ?_
    rw [dT h1];rfl
   ·
    refine bnd (stp (cFW (dF h1) rfl)) ?_
    rw [dF h1];rfl
theorem mQ {p:Int}{a b:List Nod} (h:eH p a b=true):twoS p a b=true∧vD p a=true∧vD p b=true∧∃ l r:Nat,RlOk p l r (yB p a)∧RlOk p l r (yB p b):=by
 unfold eH iS at h
 simp only [Bool.and_eq_true,decide_eq_true_eq] at h
 obtain ⟨h1,h2,h3,h4⟩:=h
 obtain ⟨_,l,r,_,_,ka,_⟩:=vU h1
 obtain ⟨_,l',r',_,_,kb,_⟩:=vU h2
 have e1:=ka.left;have e2:=ka.right;have e3:=kb.left;have e4:=kb.right
 obtain rfl:l=l':=by omega
 obtain rfl:r=r':=by omega
 exact ⟨by unfold twoS;rw [h1,h2];rfl,h1,h2,l,r,ka,kb⟩
def tF (p:Int) (n:Nat) (a b:Rel):List Int:=(b.2.2.find? (fun x=>!sG p n a.2.2 x)).getD []
theorem DX_ {p:Int}{l r:Nat}{a b:Rel} (h1:RlOk p l r a) (h2:RlOk p l r b):pT p a b=some (tF p (l+r) a b)∧(tF p (l+r) a b).isEmpty=b.2.2.all (sG p (l+r) a.2.2):=by
 have hf:=AO_ (sG p (l+r) a.2.2) (fun x:List Int=>x) b.2.2 0 (f:=fun (k9:Nat) (_:Unit)=>
   (idxO b.2.2 ((k9:Nat):Int)).bind fun a44=>
   (sT p (a.1,a.2.1,a.2.2) a44).bind fun y48=>
   (some (!y48)).bind fun a51=>
   cond a51
   ((neO a44).bind fun _=>
    some (.inr a44))
   (some (.inl ()))) (by
    intro j x hj
    rw [Nat.zero_add]
    refine bnd (pA hj) (bnd (IW_ h1 (h2.red.ok x (aD hj))) (stp ?_))
    have hne:=EB_ h2.red (aD hj)
    cases sG p (l+r) a.2.2 x with
    | false=>
     refine cTW rfl (bnd (a:=()) ?_ rfl)
     unfold neO
     cases x with
     | nil=>exact absurd rfl hne
     | cons _ _=>rfl
    | true=>rfl)
 unfold tF
 refine ⟨sqW hf ?_,?_⟩
 · cases b.2.2.find? (fun x=>!sG p (l+r) a.2.2 x) <;> rfl
 ·
  rw [←Ec_]
  cases hq:b.2.2.find? (fun x=>!sG p (l+r) a.2.2 x) with
  | none=>rfl
  | some x=>
   have hne:=EB_ h2.red (List.mem_of_find?_eq_some hq)
   cases x with
   | nil=>exact absurd rfl hne
   | cons _ _=>rfl
end Go.Proofs.YtlggnmkelgplnaaGreatDoor
namespace Go.Proofs.YtlggnmkelgplnaaGreatDoor
theorem hasL_ {p:Int}{l r:Nat}{a:Rel}{x:List Int} (h:RlOk p l r a) (hx:okR p (l+r) x):nU p a.2.2 x=some (sG p (l+r) a.2.2 x):=by
 have:=h.n24;have:=h.len
 exact spHas_ h.hf h.red hx (by omega) (by omega)
noncomputable def wdT (p:Int) (a:List Nod):Nat:=((yB p a).1+(yB p a).2.1).toNat
theorem bS {p:Int}{l r:Nat}{a:List Nod} (h:RlOk p l r (yB p a)):wdT p a=l+r:=by
 unfold wdT;rw [h.left,h.right];omega
noncomputable def wit (p:Int) (a b:List Nod):List Int:=tF p (wdT p a) (yB p b) (yB p a)
theorem tR {p:Int}{l r:Nat}{a b:Rel} (ha:RlOk p l r a) (h:¬(tF p (l+r) b a).isEmpty=true):okR p (l+r) (tF p (l+r) b a):=by
 unfold tF at h ⊢
 cases hq:a.2.2.find? (fun x=>!sG p (l+r) b.2.2 x) with
 | none=>rw [hq] at h;exact absurd rfl h
 | some x=>exact ha.red.ok x (List.mem_of_find?_eq_some hq)
theorem halves {l:Nat}{x:List Int} (h:l≤x.length):aB x 0 (l:Int)=some (x.take l)∧aB x (l:Int) ((x.length:Nat):Int)=some (x.drop l):=by
 constructor
 · unfold aB;rw [if_pos ⟨by omega,by omega,by omega⟩];simp
 ·
  unfold aB;rw [if_pos ⟨by omega,by omega,by omega⟩]
  simp only [Int.toNat_natCast]
  rw [List.take_of_length_le (by simp)]
theorem bW {p:Int}{a b:List Nod} (h:eH p a b=true):(wit p a b).length≤24:=by
 obtain ⟨h0,h1,h2,l,r,ka,kb⟩:=mQ h
 have:=ka.n24
 unfold wit
 rw [bS ka]
 by_cases he:(tF p (l+r) (yB p b) (yB p a)).isEmpty=true
 · rw [List.isEmpty_iff.1 he];simp
 · have:=(tR ka he).1;omega
theorem rwGood_ (p:Int) (r:Rul):pZ p r=some (wI p r):=by
 refine bnd (a:=wI p r) (bnd (rwIs_ r) ?_) rfl
 unfold wI
 cases pL r with
 | false=>rfl
 | true=>
  refine cTW rfl (bnd (Bd_ p r.2.1) ?_)
  cases ovB p r.2.1 with
  | false=>rfl
  | true=>exact cTW rfl (bnd (Bd_ p r.2.2) rfl)
theorem EU_ {p:Int}{t:List Nod} (h:vD p t=true):(yB p t).1=(tyT t).1∧(yB p t).2.1=(tyT t).2:=by
 unfold vD at h
 rw [Bool.and_eq_true] at h
 obtain ⟨hv,hf,hn⟩:=A0_ h.1
 obtain ⟨T,w,rfl,h2,h3,h4⟩:=BB_ (p:=p) hv
 have ho:okT p T:=fun n hm=>⟨List.all_eq_true.1 h.2 n hm,hn n hm⟩
 have hd:=nL hf h2 ho
 have ht:tyT (flat T)=w:=by unfold tyT;rw [rM h2 []]
 rw [h4,ht]
 obtain ⟨a1,a2,a3,a4⟩:=yI h2
 exact ⟨by rw [hd.l],by rw [hd.r]⟩
noncomputable def lF (p:Int) (r:Rul):Bool:=wI p r&&(vD p r.2.1&&vD p r.2.2)
theorem sM {p:Int}{r:Rul} (h:lF p r=true):eH p r.2.1 r.2.2=true:=by
 unfold lF wI pL at h
 simp only [Bool.and_eq_true] at h
 obtain ⟨⟨⟨hh,_⟩,_⟩,s1,s2⟩:=h
 obtain ⟨_,_,_,t1,t2⟩:=Az_ hh
 have d1:=EU_ s1
 have d2:=EU_ s2
 unfold eH iS
 rw [s1,s2,d1.1,d1.2,d2.1,d2.2,dT t1,dT t2];rfl
theorem Iy_ {p:Int}{a b:List Nod} (h:eH p a b=true):(vD p a&&vD p b)=true:=by
 obtain ⟨_,h1,h2,_⟩:=mQ h
 rw [h1,h2];rfl
theorem axBoth_ (p:Int) (r:Rul):∃ u v,vZ p r=some (u,v,lF p r)∧(lF p r=true→u=yB p r.2.1∧v=yB p r.2.2):=by
 have hr:=rwGood_ p r
 unfold lF
 cases hw:wI p r with
 | false=>exact ⟨(0,0,[]),(0,0,[]),bnd hr (stp (by rw [hw];rfl)),fun h=>by cases h⟩
 | true=>
  refine ⟨if vD p r.2.1=true then yB p r.2.1 else noR,if vD p r.2.2=true then yB p r.2.2 else noR,?_,fun h=>?_⟩
  ·
   refine bnd hr (stp ?_)
   rw [hw]
   refine cFW rfl (bnd (ET_ p r.2.1) (bnd (ET_ p r.2.2) ?_))
   cases vD p r.2.1 <;> cases vD p r.2.2 <;> rfl
  ·
   rw [Bool.true_and,Bool.and_eq_true] at h
   rw [if_pos h.1,if_pos h.2];exact ⟨rfl,rfl⟩
theorem I3_ (p:Int) (r:Rul):∃ u v,kZ p r=some (u,v,lF p r)∧(lF p r=true→u=yB p r.2.1∧v=yB p r.2.2):=by
 cases hw:wI p r with
 | false=>exact ⟨(0,0,[]),(0,0,[]),bnd (Da_ p r) (stp (by unfold lF;rw [hw];rfl)),fun h=>by unfold lF at h;rw [hw] at h;cases h⟩
 | true=>
  have e:eH p r.2.1 r.2.2=lF p r:=by
   cases h:lF p r with
   | true=>exact sM h
   | false=>
    cases h2:eH p r.2.1 r.2.2 with
    | false=>rfl
    | true=>unfold lF at h;rw [hw,Iy_ h2] at h;cases h
  refine ⟨_,_,bnd (Da_ p r) (stp (by rw [hw];refine cFW rfl (bnd (HT_ p _ _) ?_);rw [e])),fun h=>?_⟩
  rw [←e] at h
  obtain ⟨h0,_⟩:=mQ h
  rw [if_pos h0,if_pos h0];exact ⟨rfl,rfl⟩
noncomputable def cF (p:Int) (r:Rul):List Int×List Int×Int×Bool:=
 if lF p r=true then
  (if (wit p r.2.1 r.2.2).isEmpty=true then
   (if (wit p r.2.2 r.2.1).isEmpty=true then ([],[],0,false) else ((wit p r.2.2 r.2.1).take (yB p r.2.1).1.toNat,(wit p r.2.2 r.2.1).drop (yB p r.2.1).1.toNat,2,true))
  else ((wit p r.2.1 r.2.2).take (yB p r.2.1).1.toNat,(wit p r.2.1 r.2.2).drop (yB p r.2.1).1.toNat,1,true)) else ([],[],0,false)
theorem Dg_ {p:Int}{l r:Nat}{a b:Rel} (ha:RlOk p l r a) (hb:RlOk p l r b):fT p a.2.2 b.2.2=some (tF p (l+r) b a):=by
 refine sqW (AO_ (sG p (l+r) b.2.2) (fun x:List Int=>x) a.2.2 0 (fun j x hj=>?_)) ?_
 ·
  rw [Nat.zero_add]
  refine bnd (pA hj) (bnd (hasL_ hb (ha.red.ok x (aD hj))) (stp ?_))
  cases sG p (l+r) b.2.2 x <;> rfl
 ·
  unfold tF
  cases a.2.2.find? (fun x=>!sG p (l+r) b.2.2 x) <;> rfl
theorem CZ_ {p:Int}{a b:List Nod} (h:eH p a b=true):eH p b a=true:=by
 unfold eH iS at h ⊢
 simp only [Bool.and_eq_true,decide_eq_true_eq] at h ⊢
 exact ⟨h.2.1,h.1,h.2.2.1.symm,h.2.2.2.symm⟩
theorem len0 (l:List Int):decide (((l.length:Nat):Int)=0)=l.isEmpty:=by
 cases l with
 | nil=>rfl
 | cons a l=>exact dF (by simp;omega)
theorem Cf_ (p:Int) (r:Rul):jY p r=some (cF p r):=by
 have hm:iB=1099511627776:=rfl
 obtain ⟨u,v,h1,h2⟩:=axBoth_ p r
 refine bnd h1 (stp ?_)
 unfold cF
 cases h:lF p r with
 | false=>rfl
 | true=>
  obtain ⟨rfl,rfl⟩:=h2 h
  obtain ⟨_,_,_,l,q,ka,kb⟩:=mQ (sM h)
  have hl:(yB p r.2.1).1.toNat=l:=by rw [ka.left];omega
  have n24:=ka.n24
  rw [if_pos rfl,hl]
  unfold wit
  rw [bS ka,bS kb]
  refine cFW rfl (bnd (Dg_ ka kb) ?_)
  have fin:∀ (x:List Int) (s:Int),x.isEmpty=false→x.length=l+q→((some (decide (((x.length:Nat):Int)=0))).bind fun a56=>
  cond a56
  (some (([]:List Int),([]:List Int),(0:Int),false))
  ((aB x 0 (yB p r.2.1).1).bind fun a60=>
   (aB x (yB p r.2.1).1 ((x.length:Nat):Int)).bind fun a64=>
   (vG a60).bind fun y68=>
   (vG a64).bind fun y73=>
   some (y68,y73,s,true)))=some (x.take l,x.drop l,s,true):=by
   intro x s he hx
   obtain ⟨s1,s2⟩:=halves (l:=l) (x:=x) (by omega)
   rw [ka.left]
   exact stp (cFW (by rw [len0];exact he) (bnd s1 (bnd s2 (bnd (own_ (by simp;omega)) (bnd (own_ (by simp;omega)) rfl)))))
  cases he:(tF p (l+q) (yB p r.2.2) (yB p r.2.1)).isEmpty with
  | false=>
   have hx:=(tR ka (by rw [he];decide)).1
   refine bnd (a:=(1,tF p (l+q) (yB p r.2.2) (yB p r.2.1))) (stp (cFW (by rw [len0];exact he) rfl)) ?_
   exact fin _ 1 he hx
  | true=>
   refine bnd (a:=(2,tF p (l+q) (yB p r.2.1) (yB p r.2.2))) (stp (cTW (by rw [len0];exact he) (bnd (Dg_ kb ka) rfl))) ?_
   cases he2:(tF p (l+q) (yB p r.2.1) (yB p r.2.2)).isEmpty with
   | true=>exact stp (cTW (by rw [len0];exact he2) rfl)
   | false=>
    have hx:=(tR kb (by rw [he2];decide)).1
    exact fin _ 2 he2 hx
theorem tY (p:Int) (r:Rul):aT p r=some (cF p r):=by
 have hm:iB=1099511627776:=rfl
 obtain ⟨u,v,h1,h2⟩:=I3_ p r
 refine bnd h1 (stp ?_)
 unfold cF
 cases h:lF p r with
 | false=>rfl
 | true=>
  obtain ⟨rfl,rfl⟩:=h2 h
  obtain ⟨_,_,_,l,q,ka,kb⟩:=mQ (sM h)
  have hl:(yB p r.2.1).1.toNat=l:=by rw [ka.left];omega
  have n24:=ka.n24
  rw [if_pos rfl,hl]
  unfold wit
  rw [bS ka,bS kb]
  obtain ⟨m1,m2⟩:=DX_ kb ka
  obtain ⟨m3,m4⟩:=DX_ ka kb
  refine cFW rfl (bnd m1 (stp ?_))
  cases he:(tF p (l+q) (yB p r.2.2) (yB p r.2.1)).isEmpty with
  | false=>
   have hx:=(tR ka (by rw [he];decide)).1
   exact cTW rfl (bnd (first_ (R:=yB p r.2.1) ka.left (by omega)) (bnd (gK (by simp;omega)) (bnd (iO (R:=yB p r.2.1) ka.left (by omega)) (bnd (gK (by simp;omega)) rfl))))
  | true=>
   refine cFW rfl (bnd m3 (stp ?_))
   cases he2:(tF p (l+q) (yB p r.2.1) (yB p r.2.2)).isEmpty with
   | true=>rfl
   | false=>
    have hx:=(tR kb (by rw [he2];decide)).1
    exact cTW rfl (bnd (first_ (R:=yB p r.2.2) kb.left (by omega)) (bnd (gK (by simp;omega)) (bnd (iO (R:=yB p r.2.2) kb.left (by omega)) (bnd (gK (by simp;omega)) rfl))))
theorem FM_ (p:Int) (r:Rul):(cF p r).1.length≤1048576:=by
 unfold cF
 cases h:lF p r with
 | false=>simp
 | true=>
  have:=bW (sM h)
  have:=bW (CZ_ (sM h))
  rw [if_pos rfl]
  split
  · split <;> simp;omega
  · simp;omega
theorem FL_ (p:Int) (r:Rul):(cF p r).2.1.length≤1048576:=by
 unfold cF
 cases h:lF p r with
 | false=>simp
 | true=>
  have:=bW (sM h)
  have:=bW (CZ_ (sM h))
  rw [if_pos rfl]
  split
  · split <;> simp;omega
  · simp;omega
end Go.Proofs.YtlggnmkelgplnaaGreatDoor
namespace Go.Proofs.YtlggnmkelgplnaaGreatDoor
set_option linter.unusedVariables false
abbrev qH:=Int×Int×ByteArray
def nNode (a:qH):Nat:=a.2.2.size
def rV (a:qH):Prop:=(a.2.2.size:Int)≤9223372036854775807
theorem z_Node (a:qH) (left:Int) (h0:0≤left) (h1:left≤aF) (hl:rV a):yZ a left=some (if (nNode a:Int)≤left then left-nNode a else -1):=by
 unfold aF at h1
 have l0:=hl
 unfold rV at l0
 unfold nNode
 refine bnd (fD (by omega) (by omega)) (stp ?_)
 by_cases g0:(a.2.2.size:Int)≤left
 case neg=>
  rw [if_neg (by omega)]
  exact cTW (dT (by omega)) rfl
 rw [if_pos (by omega)]
 refine cFW (dF (by omega)) ?_
 congr 1;try omega
theorem G7_ {a:qH} (h:Nice.ok a):rV a:=by
 obtain ⟨h0,h1,h2⟩:=h
 exact h2
theorem t_Node (a:qH) (h:nNode a≤1048576):wZ a=some a:=by
 unfold nNode at h
 exact rfl
theorem e_Node (a:qH) (h:nNode a≤1048576):Aa_ a a=some true:=by
 unfold nNode at h
 exact stp (cFW (nT (dT rfl)) (stp (cFW (nT (dT rfl)) (stp (cFW (nT (dT rfl)) (rfl))))))
abbrev oH:=List qH
def nNodeS (a:oH):Nat:=a.length+tot nNode a
def AK_ (a:oH):Prop:=lS a∧∀ x∈a,rV x
theorem z_NodeS (a:oH) (left:Int) (h0:0≤left) (h1:left≤aF) (hl:AK_ a):hZ a left=some (if (nNodeS a:Int)≤left then left-nNodeS a else -1):=by
 have hl1:=hl.1;unfold lS at hl1;unfold aF at h1
 unfold nNodeS
 refine bnd (fD (by omega) (by omega)) (stp ?_)
 by_cases h:(a.length:Int)≤left
 ·
  refine cFW (dF (by omega)) (sqW (Ew_ nNode a (left-a.length) ?_ ?_ a [] _ rfl ?_ (Int.le_refl _)) ?_)
  ·
   intro j r s hj hjl hs hsB
   dsimp only
   refine stp (cTW (dT (by omega)) (bnd (pA hj) (bnd (z_Node r s hs (by unfold aF;omega) (hl.2 r (aD hj))) (stp ?_))))
   by_cases h2:(nNode r:Int)≤s
   · rw [if_pos h2,if_pos h2];exact cFW (dF (by omega)) (bnd (jB (by omega) (by omega)) rfl)
   · rw [if_neg h2,if_neg h2];exact cTW (dT (by omega)) rfl
  · intro s;dsimp only;exact stp (cFW (dF (by omega)) rfl)
  · omega
  ·
   by_cases h2:(tot nNode a:Int)≤left-a.length
   · rw [if_pos h2,if_pos (by omega),zI];congr 1;omega
   · rw [if_neg h2,if_neg (by omega),BL_]
 · rw [if_neg (by omega)];exact cTW (dT (by omega)) rfl
theorem GG_ {a:oH} (h:Nice.ok a):AK_ a:=⟨h.1,fun x hx=>G7_ (h.2 x hx)⟩
theorem t_NodeS (a:oH) (h:nNodeS a≤1048576):gZ a=some a:=by
 have hm:iB=1099511627776:=rfl
 unfold nNodeS at h
 refine bnd (vI _ (by omega)) (bnd (Es_ _ a ?_ ?_ a [] rfl) rfl)
 ·
  intro j x s hj hjl hs
  dsimp only
  exact stp (cTW (dT (by omega)) (bnd (pA hj) (bnd (t_Node x (by have:=Eq_ (n:=nNode) (aD hj);omega)) (bnd (gD _ (by omega)) (bnd (jB (by omega) (by omega)) rfl)))))
 · intro s hs;dsimp only;exact stp (cFW (dF (by omega)) rfl)
theorem e_NodeS (a:oH) (h:nNodeS a≤1048576):iZ a a=some true:=by
 unfold nNodeS at h
 refine stp (cFW (nT (dT rfl)) (sqW (aO (fun j=>(j:Int)) (t:=.inl ()) a.length ?_ ?_) ?_))
 ·
  intro j hj
  exact stp (cTW (dT (by omega)) (bnd (pA (List.getElem?_eq_getElem hj)) (bnd (pA (List.getElem?_eq_getElem hj)) (bnd (e_Node a[j] (by have:=Eq_ (n:=nNode) (List.getElem_mem hj);omega)) (stp (cFW rfl (bnd (jB (by omega) (by omega)) rfl)))))))
 · exact stp (cFW (dF (by omega)) rfl)
 · rfl
def kR (x:qH) (q:Int):qH×Int:=((q,(q+1),mText ((q+1)+1)),(((q+1)+1)+1))
def wM (x:qH):Nat:=3
theorem CM_ (x:qH) (q:Int):(kR x q).2=q+wM x:=by
 unfold kR wM
 dsimp only
 omega
theorem Df_ (x:qH):wM x≤8*(1+nNode x):=by
 unfold wM nNode
 omega
def pV:oH→Int→oH×Int:=mkL kR
def BV_ (a:oH):Nat:=tot wM a
theorem DF_ (a:oH):BV_ a≤8*nNodeS a:=by
 have:=totLe2 Df_ a
 rw [Fd_] at this
 exact this
theorem G8_ (a:oH) (k:Int):(pV a k).2=k+BV_ a:=Bp_ kR wM CM_ a k
theorem m_NodeS (a:oH) (k:Int) (h0:0≤k) (h:k+8*nNodeS a≤1125899906842624):pY a k=some (pV a k):=by
 have hsum:=Fd_ nNode a
 unfold nNodeS at h
 refine bnd (C8_ kR wM (fun x=>8*(1+nNode x)) CM_ Df_ a.length 1125899906842624 ?_ ?_ a [] k (by simp) h0 (by rw [hsum];omega)) rfl
 ·
  intro j x s q hj hs hjl hq hB
  dsimp only at hB ⊢
  unfold nNode at hB
  refine stp (cTW (dT (by omega)) ?_)
  refine bnd (pA hj) ?_
  refine bnd (gD _ (by omega)) ?_
  refine bnd (jB (by omega) (by omega)) ?_
  refine bnd (pA (a:=(q,x.2.1,x.2.2)) (by rw [List.getElem?_set_self (by omega)])) ?_
  refine bnd (gD _ (by simp only [List.length_set];omega)) ?_
  refine bnd (jB (by omega) (by omega)) ?_
  refine bnd (Ii_ _ (by omega) (by omega)) ?_
  refine bnd (pA (a:=(q,(q+1),x.2.2)) (by rw [List.getElem?_set_self (by simp only [List.length_set];omega)])) ?_
  refine bnd (gD _ (by simp only [List.length_set];omega)) ?_
  refine bnd (jB (by omega) (by omega)) ?_
  refine bnd (jB (by omega) (by omega)) ?_
  simp only [List.set_set];rfl
 · intro s q hs;dsimp only;exact stp (cFW (dF (by omega)) rfl)
abbrev pH:=List (Int×Int×ByteArray)
def nTerm (a:pH):Nat:=nNodeS a
def nR (a:pH):Prop:=AK_ a
theorem E1_ (a:pH) (left:Int) (h0:0≤left) (h1:left≤aF) (hl:nR a):cU a left=some (if (nTerm a:Int)≤left then left-nTerm a else -1):=by
 unfold aF at h1
 have l0:=hl
 unfold nR at l0
 unfold nTerm
 refine bnd (z_NodeS a (left) (by omega) (by unfold aF;omega) l0) (stp ?_)
 by_cases g0:(nNodeS a:Int)≤left
 case neg=>
  rw [if_neg g0];try rw [if_neg (by omega)]
  exact cTW (dT (by omega)) rfl
 rw [if_pos g0]
 try rw [if_pos (by omega)]
 refine cFW (dF (by omega)) ?_
 congr 1;try omega
theorem CL_ {a:pH} (h:Nice.ok a):nR a:=by
 have h0:=h
 exact GG_ h0
theorem E6_ (a:pH) (h:nTerm a≤1048576):bU a=some a:=by
 unfold nTerm at h
 exact bnd (t_NodeS a (by omega)) (rfl)
theorem Ft_ (a:pH) (h:nTerm a≤1048576):dU a a=some true:=by
 unfold nTerm at h
 exact bnd (e_NodeS a (by omega)) (stp (cFW rfl (rfl)))
def jL (a:pH) (k:Int):pH×Int:=((pV a k).1,(pV a k).2)
def eP (a:pH):Nat:=BV_ a
theorem zV (a:pH):eP a≤8*nTerm a:=by
 unfold eP nTerm
 have hc0:=DF_ a
 omega
theorem Ap_ (a:pH) (k:Int):(jL a k).2=k+eP a:=by
 unfold jL eP
 simp only [G8_]
 try omega
theorem Ff_ (a:pH) (k:Int) (h0:0≤k) (h:k+8*nTerm a≤1125899906842624):mT a k=some (jL a k):=by
 unfold nTerm at h
 have hc0:=DF_ a
 exact bnd (m_NodeS _ _ h0 (by omega)) (rfl)
end Go.Proofs.YtlggnmkelgplnaaGreatDoor
namespace Go.Proofs.YtlggnmkelgplnaaGreatDoor
set_option linter.unusedVariables false
abbrev cH:=ByteArray×(List (Int×Int×ByteArray))×(List (Int×Int×ByteArray))
def nRule (a:cH):Nat:=a.1.size+nTerm a.2.1+nTerm a.2.2
def DZ_ (a:cH):Prop:=(a.1.size:Int)≤9223372036854775807∧nR a.2.1∧nR a.2.2
theorem z_Rule (a:cH) (left:Int) (h0:0≤left) (h1:left≤aF) (hl:DZ_ a):xZ a left=some (if (nRule a:Int)≤left then left-nRule a else -1):=by
 unfold aF at h1
 obtain ⟨l0,l1,l2⟩:=hl
 unfold nRule
 refine bnd (fD (by omega) (by omega)) (stp ?_)
 by_cases g0:(a.1.size:Int)≤left
 case neg=>
  rw [if_neg (by omega)]
  exact cTW (dT (by omega)) rfl
 refine cFW (dF (by omega)) ?_
 refine bnd (E1_ a.2.1 (left-a.1.size) (by omega) (by unfold aF;omega) l1) (stp ?_)
 by_cases g1:(nTerm a.2.1:Int)≤left-a.1.size
 case neg=>
  rw [if_neg g1];try rw [if_neg (by omega)]
  exact cTW (dT (by omega)) rfl
 rw [if_pos g1]
 refine cFW (dF (by omega)) ?_
 refine bnd (E1_ a.2.2 (left-a.1.size-nTerm a.2.1) (by omega) (by unfold aF;omega) l2) (stp ?_)
 by_cases g2:(nTerm a.2.2:Int)≤left-a.1.size-nTerm a.2.1
 case neg=>
  rw [if_neg g2];try rw [if_neg (by omega)]
  exact cTW (dT (by omega)) rfl
 rw [if_pos g2]
 try rw [if_pos (by omega)]
 refine cFW (dF (by omega)) ?_
 congr 1;try omega
theorem G6_ {a:cH} (h:Nice.ok a):DZ_ a:=by
 obtain ⟨h0,h1,h2⟩:=h
 exact ⟨h0,CL_ h1,CL_ h2⟩
theorem pO (a:cH) (h:nRule a≤1048576):sN a=some a:=by
 unfold nRule at h
 exact bnd (E6_ a.2.1 (by omega)) (bnd (E6_ a.2.2 (by omega)) (rfl))
theorem e_Rule (a:cH) (h:nRule a≤1048576):zZ a a=some true:=by
 unfold nRule at h
 exact stp (cFW (nT (dT rfl)) (bnd (Ft_ a.2.1 (by omega)) (stp (cFW rfl (bnd (Ft_ a.2.2 (by omega)) (stp (cFW rfl (rfl))))))))
def Bn_ (a:cH) (k:Int):cH×Int:=((a.1,(jL a.2.1 k).1,(jL a.2.2 (jL a.2.1 k).2).1),(jL a.2.2 (jL a.2.1 k).2).2)
def uX (a:cH):Nat:=eP a.2.1+eP a.2.2
theorem I8_ (a:cH):uX a≤8*nRule a:=by
 unfold uX nRule
 have hc1:=zV a.2.1
 have hc2:=zV a.2.2
 omega
theorem Hl_ (a:cH) (k:Int):(Bn_ a k).2=k+uX a:=by
 unfold Bn_ uX
 simp only [Ap_]
 try omega
theorem m_Rule (a:cH) (k:Int) (h0:0≤k) (h:k+8*nRule a≤1125899906842624):xY a k=some (Bn_ a k):=by
 unfold nRule at h
 have hc1:=zV a.2.1
 have hc2:=zV a.2.2
 exact bnd (Ff_ _ _ h0 (by omega)) (bnd (Ff_ _ _ (by simp only [Ap_];omega) (by simp only [Ap_];omega)) (rfl))
end Go.Proofs.YtlggnmkelgplnaaGreatDoor
namespace Go.Proofs.YtlggnmkelgplnaaGreatDoor
set_option linter.unusedVariables false
theorem FT_ (a0:Int) (a1:cH) (i0:Nice.ok a0) (i1:Nice.ok a1):BY_ a0 a1=some true:=by
 have hbig:aF=4611686018427387904:=rfl
 refine bnd (z_Rule a1 1048576 (by omega) (by rw [hbig];omega) (G6_ i1)) (stp ?_)
 by_cases gaR:(nRule a1:Int)≤1048576
 case neg=>rw [if_neg gaR];exact cTW (dT (by omega)) rfl
 rw [if_pos gaR]
 refine cFW (dF (by omega)) ?_
 have haR:nRule a1≤1048576:=by omega
 first
 | refine bnd (pO a1 haR) (bnd (Cf_ a0 a1) ?_)
 | refine bnd (bnd (pO a1 haR) (bnd (Cf_ a0 a1) rfl)) ?_
 refine bnd (pO a1 haR) ?_
 refine bnd (tY a0 a1) ?_
 have b0:eJ (cF a0 a1).1≤1048576:=FM_ a0 a1
 have cb0:=Em_ (cF a0 a1).1
 have b1:eJ (cF a0 a1).2.1≤1048576:=FL_ a0 a1
 have cb1:=Em_ (cF a0 a1).2.1
 refine bnd (a:=false) (bnd (vO _ b0) (stp (cFW rfl (bnd (vO _ b1) (stp (cFW rfl (stp (cFW (nT (dT rfl)) (stp (congrArg some (nT (dT rfl)))))))))))) (cFW rfl ?_)
 refine bnd (pO _ haR) (bnd (e_Rule _ haR) (stp (cFW rfl ?_)))
 have caR:=I8_ a1
 refine bnd (m_Rule a1 _ (by omega) (by omega)) ?_
 refine bnd (a:=false) (stp (cFW (dF (by simp only [Hl_];omega)) (bnd (vO _ b0) (stp (cFW rfl (bnd (vO _ b1) (stp (cFW rfl (stp (cFW (nT (dT rfl)) (stp (congrArg some (nT (dT rfl)))))))))))))) (cFW rfl ?_)
 refine bnd (Fg_ (cF a0 a1).1 _ (by omega) (by omega)) ?_
 refine bnd ((congrArg (kN _) (Aq_ _ _)).trans (Fg_ (cF a0 a1).2.1 _ (by omega) (by omega))) ?_
 refine bnd (zW (cF a0 a1).1 _ (by omega) (by omega)) (stp (cFW (dF (by omega)) ?_))
 refine bnd (zW (cF a0 a1).2.1 _ (by omega) (by omega)) (stp (cFW (dF (by omega)) ?_))
 refine stp (cFW (nT (dT (by simp only [Aq_]))) ?_)
 first
 | refine bnd (pO a1 haR) (bnd (tY a0 a1) ?_)
 | refine bnd (bnd (pO a1 haR) (bnd (tY a0 a1) rfl)) ?_
 refine bnd (a:=false) (bnd (vO _ b0) (stp (cFW rfl (bnd (vO _ b1) (stp (cFW rfl (stp (cFW (nT (dT rfl)) (stp (congrArg some (nT (dT rfl)))))))))))) (cFW rfl ?_)
 refine bnd (zW (cF a0 a1).1 _ (by omega) (by omega)) (stp (cFW (dF (by omega)) ?_))
 refine bnd (zW (cF a0 a1).2.1 _ (by omega) (by omega)) (stp (cFW (dF (by omega)) ?_))
 refine stp (cFW (nT (dT (by simp only [Aq_]))) ?_)
 rfl
end Go.Proofs.YtlggnmkelgplnaaGreatDoor
