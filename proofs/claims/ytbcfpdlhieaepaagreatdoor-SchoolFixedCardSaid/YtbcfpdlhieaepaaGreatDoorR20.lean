/- The walks of the school's values: numbers, names, tasks. -/
import Derived.Test.YtbcfpdlhieaepaaGreatDoorR19
namespace Go.Proofs.YtbcfpdlhieaepaaGreatDoor
open Go.RowKit SeedP Go.Maps
/-! ### number -/
theorem num_byte (n k:Nat):((UInt8.ofNat (n / k)).toNat:Int)=(n:Int) / (k:Int) % 256:=by
 rw [UInt8.toNat_ofNat']
 have:((n / k % 2 ^ 8:Nat):Int)=(n:Int) / (k:Int) % 256:=by
  rw [Int.natCast_emod,Int.natCast_ediv]; rfl
 exact this
set_option maxRecDepth 100000 in
theorem snumber_c (v:Value) (xs:List UInt8) (n B:Nat) (w:World) (hown:w.ownsRow B 5 1 v xs.length (byts xs)) (hB:B≤w.heap.size) (hn:n < 4294967296) (hx:xs.length≤2147483648) :
 Calls Tryz.prog 56 #[v,.int .i64 n] w fun e w'=>(∃ v',e=.returned v'∧w'.ownsRow B 5 1 v' (xs ++ numB n 4).length (byts (xs ++ numB n 4)))∧Below B w w'∧Kept w w':=by
 have h3:=(num_byte n 16777216).symm
 have h2:=(num_byte n 65536).symm
 have h1:=(num_byte n 256).symm
 have h0:=(num_byte n 1).symm
 have he:numB n 4=[UInt8.ofNat (n / 16777216),UInt8.ofNat (n / 65536),UInt8.ofNat (n / 256),UInt8.ofNat (n / 1)]:=rfl
 rw [he]
 clear he
 rw [show ((16777216:Nat):Int)=16777216 from rfl] at h3
 have h3':(n:Int) / 16777216=((UInt8.ofNat (n / 16777216)).toNat:Int):=by rw [← h3]; omega
 clear h3
 rw [show ((65536:Nat):Int)=65536 from rfl] at h2
 rw [show ((256:Nat):Int)=256 from rfl] at h1
 rw [show ((1:Nat):Int)=1 from rfl,Int.ediv_one] at h0
 generalize UInt8.ofNat (n / 16777216)=b3 at *
 generalize UInt8.ofNat (n / 65536)=b2 at *
 generalize UInt8.ofNat (n / 256)=b1 at *
 generalize UInt8.ofNat (n / 1)=b0 at *
 go_enter Tryz.func56,Tryz.ntmps56
 go_wp2_with (at_builtin; go_must (refine wpList_appK rfl _ _ rfl B _ xs.length xs rfl (hown.alloc _) _ [b3,b2,b1,b0] rfl (rdB_lit w [b3,b2,b1,b0] (by simp [maxLen]) 4 rfl) (by simp; omega) (by simp; omega) ?_); intro v' w2 hy2 hb2 hk2)
 go_ret
 refine ⟨⟨_,rfl,by simpa using hy2⟩,((Below.refl B w).alloc hB _).trans hb2,((Kept.refl w).alloc (Nat.le_refl _) _).trans hk2⟩
/-! ### readNumber -/
theorem ori (a b:Nat) (ha:a < 4611686018427387904) (hb:b < 4611686018427387904):bits .or .i64 (a:Int) (b:Int)=((a ||| b:Nat):Int):=by
 have h1:(ofI (a:Int)).toNat=a:=by have:=toNat_ofI (a:Int); omega
 have h2:(ofI (b:Int)).toNat=b:=by have:=toNat_ofI (b:Int); omega
 show IntKind.i64.wrap (((ofI a ||| ofI b).toNat:Nat):Int)=_
 rw [BitVec.toNat_or,h1,h2]
 have hlt:a ||| b < 2 ^ 62:=Nat.or_lt_two_pow ha hb
 have:=IntKind.wrap_i64 ((a ||| b:Nat):Int)
 rw [this]; omega
theorem or_lt (a b k:Nat) (hb:b < 2 ^ k):a * 2 ^ k ||| b=a * 2 ^ k+b:=by
 rw [← Nat.shiftLeft_eq,Nat.shiftLeft_add_eq_or_of_lt hb]
set_option maxRecDepth 100000 in
theorem or4n (a b c d:Nat) (hb:b < 256) (hc:c < 256) (hd:d < 256):((a * 16777216 ||| b * 65536) ||| c * 256) ||| d=a * 16777216+b * 65536+c * 256+d:=by
 have e1:a * 16777216 ||| b * 65536=a * 16777216+b * 65536:=or_lt a (b * 65536) 24 (by show b * 65536 < 16777216; omega)
 have e2:(a * 256+b) * 65536 ||| c * 256=(a * 256+b) * 65536+c * 256:=or_lt (a * 256+b) (c * 256) 16 (by show c * 256 < 65536; omega)
 have e3:((a * 256+b) * 256+c) * 256 ||| d=((a * 256+b) * 256+c) * 256+d:=or_lt ((a * 256+b) * 256+c) d 8 (by show d < 256; omega)
 have f2:a * 16777216+b * 65536=(a * 256+b) * 65536:=by rw [Nat.add_mul,Nat.mul_assoc]
 have f3:(a * 256+b) * 65536+c * 256=((a * 256+b) * 256+c) * 256:=by rw [Nat.add_mul ((a * 256+b) * 256),Nat.mul_assoc (a * 256+b) 256 256]
 rw [e1,f2,e2,f3,e3,← f3,← f2]
theorem or4 (b3 b2 b1 b0:UInt8):bits .or .i64 (bits .or .i64 (bits .or .i64 ((b3.toNat:Int) * 16777216) ((b2.toNat:Int) * 65536)) ((b1.toNat:Int) * 256)) (b0.toNat:Int)=((numV [b3,b2,b1,b0]:Nat):Int):=by
 have h3:=b3.toNat_lt; have h2:=b2.toNat_lt; have h1:=b1.toNat_lt; have h0:=b0.toNat_lt
 have hn:numV [b3,b2,b1,b0]=b3.toNat * 16777216+b2.toNat * 65536+b1.toNat * 256+b0.toNat:=by
  unfold numV
  simp only [List.foldl_cons,List.foldl_nil]
  omega
 rw [hn]
 generalize b3.toNat=x3 at *
 generalize b2.toNat=x2 at *
 generalize b1.toNat=x1 at *
 generalize b0.toNat=x0 at *
 have c3:(x3:Int) * 16777216=((x3 * 16777216:Nat):Int):=by omega
 have c2:(x2:Int) * 65536=((x2 * 65536:Nat):Int):=by omega
 have c1:(x1:Int) * 256=((x1 * 256:Nat):Int):=by omega
 have l1:x3 * 16777216 ||| x2 * 65536 < 2 ^ 62:=Nat.or_lt_two_pow (by show x3 * 16777216 < 4611686018427387904; omega) (by show x2 * 65536 < 4611686018427387904; omega)
 have l2:x3 * 16777216 ||| x2 * 65536 ||| x1 * 256 < 2 ^ 62:=Nat.or_lt_two_pow l1 (by show x1 * 256 < 4611686018427387904; omega)
 rw [c3,c2,c1,ori _ _ (by omega) (by omega),ori _ _ l1 (by omega),ori _ _ l2 (by omega),or4n _ _ _ _ (by omega) (by omega) (by omega)]
/-- four bytes at the front -/
theorem four (l:List UInt8) (h:4≤l.length):l.take 4=[l.getD 0 0,l.getD 1 0,l.getD 2 0,l.getD 3 0]:=by
 match l,h with
 | a :: b :: c :: d :: r,_=>rfl
/-- what stands behind the first k bytes -/
theorem rdP_drop {w:World} {p:Nat→Prop} {l:List UInt8} (k g off cap:Nat) (hk:k≤l.length) (h1:l.length≤cap) (h2:cap≤9223372036854775807) (h3:p g) (hc:∀ j,j < l.length→w.cell? ⟨g,off+j,none⟩=some (.int .u8 (l.getD j 0).toNat)) :
 RdP w p (.slice (if cap=k then some ⟨g,off,none⟩ else some ⟨g,off+k,none⟩) (l.length - k) (cap - k)) (l.drop k):=by
 by_cases e:cap=k
 ·have e2:l.length - k=0:=by omega
  rw [if_pos e,e2]
  exact Or.inl ⟨Or.inr ⟨_,_,rfl⟩,List.drop_eq_nil_of_le (by omega)⟩
 ·rw [if_neg e]
  refine Or.inr ⟨g,off+k,cap - k,by rw [List.length_drop],by rw [List.length_drop]; omega,by unfold maxLen; omega,h3,fun j hj=>?_⟩
  rw [List.length_drop] at hj
  rw [Nat.add_assoc,hc (k+j) (by omega)]
  simp [List.getD_eq_getElem?_getD,List.getElem?_drop]
theorem rdB_drop {w:World} {B:Nat} {l:List UInt8} (k g off cap:Nat) (hk:k≤l.length) (h1:l.length≤cap) (h2:cap≤9223372036854775807) (h3:g < B) (hc:∀ j,j < l.length→w.cell? ⟨g,off+j,none⟩=some (.int .u8 (l.getD j 0).toNat)) :
 RdB w B (.slice (if cap=k then some ⟨g,off,none⟩ else some ⟨g,off+k,none⟩) (l.length - k) (cap - k)) (l.drop k):=rdP_drop (p:=fun g=>g < B) k g off cap hk h1 h2 h3 hc
set_option maxRecDepth 100000 in
set_option maxHeartbeats 1000000 in
theorem readNumberP_c (v:Value) (l:List UInt8) (p:Nat→Prop) (w:World) (hv:RdP w p v l) (h4:4≤l.length) :
 Calls Tryz.prog 50 #[v] w fun e w'=>(∃ v',e=.returned (.tuple #[.int .i64 (numV (l.take 4)),v'])∧RdP w' p v' (l.drop 4))∧Below w.heap.size w w':=by
 rcases hv with ⟨_,rfl⟩ | ⟨g,off,cap,rfl,h1,h2,h3,hc⟩
 ·simp at h4
 have c0:=hc 0 (by omega)
 have c1:=hc 1 (by omega)
 have c2:=hc 2 (by omega)
 have c3:=hc 3 (by omega)
 rw [four l h4]
 have HO:=Lib.hid (or4 (l.getD 0 0) (l.getD 1 0) (l.getD 2 0) (l.getD 3 0))
 have HC:=Lib.hid hc
 unfold maxLen at h2
 have i1:(4:Int)≤(l.length:Int):=by omega
 have j0:(0:Int) < (l.length:Int):=by omega
 have j1:(1:Int) < (l.length:Int):=by omega
 have j2:(2:Int) < (l.length:Int):=by omega
 have j3:(3:Int) < (l.length:Int):=by omega
 have W0:=Lib.hid (Below.refl w.heap.size w)
 generalize l.getD 0 0=b3 at *
 generalize l.getD 1 0=b2 at *
 generalize l.getD 2 0=b1 at *
 generalize l.getD 3 0=b0 at *
 have u3:=b3.toNat_lt; have u2:=b2.toNat_lt; have u1:=b1.toNat_lt; have u0:=b0.toNat_lt
 clear hc
 have HD:=Lib.hid (fun w hw=>rdP_drop (w:=w) (p:=p) (l:=l) 4 g off cap h4 h1 h2 h3 hw)
 clear h3
 generalize hn:l.length=n at *
 have p0:0 < n:=by omega
 have p1:1 < n:=by omega
 have p2:2 < n:=by omega
 have p3:3 < n:=by omega
 rw [Nat.add_zero] at c0
 clear hn
 go_enter Tryz.func50,Tryz.ntmps50
 go_wp2
 go_quiet (fail)
 generalize (if cap=4 then some (⟨g,off,none⟩:Addr) else some ⟨g,off+4,none⟩)=pa at *
 rw [HO.out]
 go_wp2
 go_ret2
 exact ⟨⟨_,rfl,HD.out _ HC.out⟩,below_drewN W0.out nq⟩
theorem readNumber_c (v:Value) (l:List UInt8) (B:Nat) (w:World) (hv:RdB w B v l) (h4:4≤l.length) :
 Calls Tryz.prog 50 #[v] w fun e w'=>(∃ v',e=.returned (.tuple #[.int .i64 (numV (l.take 4)),v'])∧RdB w' B v' (l.drop 4))∧Below w.heap.size w w':=readNumberP_c v l (fun g=>g < B) w hv h4
/-! ### readName -/
/-- a piece -/
theorem rdB_sub {w:World} {B:Nat} {l:List UInt8} (a b g off cap:Nat) (hb:b≤l.length) (ha:a≤b) (h1:l.length≤cap) (h2:cap≤9223372036854775807) (h3:g < B) (hc:∀ j,j < l.length→w.cell? ⟨g,off+j,none⟩=some (.int .u8 (l.getD j 0).toNat)) :
 RdB w B (.slice (if cap=a then some ⟨g,off,none⟩ else some ⟨g,off+a,none⟩) (b - a) (cap - a)) ((l.take b).drop a):=by
 have hl:((l.take b).drop a).length=b - a:=by rw [List.length_drop,List.length_take]; omega
 by_cases e:cap=a
 ·have e2:b - a=0:=by omega
  rw [if_pos e,e2]
  exact Or.inl ⟨Or.inr ⟨_,_,rfl⟩,List.eq_nil_of_length_eq_zero (by omega)⟩
 ·rw [if_neg e]
  refine Or.inr ⟨g,off+a,cap - a,by rw [hl],by rw [hl]; omega,by unfold maxLen; omega,h3,fun j hj=>?_⟩
  rw [hl] at hj
  rw [Nat.add_assoc,hc (a+j) (by omega)]
  simp [List.getD_eq_getElem?_getD,List.getElem?_drop,show a+j < b by omega]
def zeroName:Value:=.tuple #[.string ⟨#[]⟩,.slice none 0 0,.bool false]
set_option maxRecDepth 100000 in
set_option maxHeartbeats 1000000 in
theorem readName_c (v:Value) (l:List UInt8) (B:Nat) (w:World) (hv:RdB w B v l) :
 Calls Tryz.prog 88 #[v] w fun e w'=>(match rName l with
  | none=>e=.returned zeroName
  | some (nm,r)=>∃ v',e=.returned (.tuple #[strV nm,v',.bool true])∧RdB w' B v' r)∧Below w.heap.size w w':=by
 have hun:undef=Value.tuple #[]:=rfl
 have W0:=Lib.hid (Below.refl w.heap.size w)
 cases l with
 | nil=>
   obtain ⟨a,cap,rfl,_⟩:=hv.open_
   clear hv
   simp only [rName,List.length_nil]
   go_enter Tryz.func88,Tryz.ntmps88
   go_wp2
   refine bodyPost_ret (v:=zeroName) (by simp [results,Tryz.results88,go_sem,zeroName]) rfl ?_
   exact ⟨rfl,W0.out⟩
 | cons n r=>
   rcases hv with ⟨_,h⟩ | ⟨g,off,cap,rfl,h1,h2,h3,hc⟩
   ·cases h
   have c0:=hc 0 (by simp)
   rw [Nat.add_zero] at c0
   simp only [List.getD_cons_zero] at c0
   have hn:=n.toNat_lt
   unfold maxLen at h2
   simp only [List.length_cons] at h1 hc
   have e0:((((r.length+1:Nat):Int)) == 0)=false:=beq_eq_false_iff_ne.2 (by omega)
   by_cases hlt:r.length < n.toNat
   ·have t1:decide (((r.length+1:Nat):Int) < 1+(n.toNat:Int))=true:=decide_eq_true (by omega)
    have HR:Hid (rName (n :: r)=none):=Lib.hid (by simp only [rName]; rw [if_pos hlt])
    rw [HR.out]
    simp only [List.length_cons]
    obtain ⟨k,hk⟩:∃ k,r.length+1=k:=⟨_,rfl⟩
    have k0:0 < k:=by omega
    have k1:(0:Int) < (k:Int):=by omega
    rw [hk] at e0 t1 ⊢
    clear hc hlt HR h3 h1
    generalize n.toNat=m at *
    go_enter Tryz.func88,Tryz.ntmps88
    go_wp2
    refine bodyPost_ret (v:=zeroName) (by simp [results,Tryz.results88,go_sem,zeroName]) rfl ?_
    exact ⟨rfl,W0.out⟩
   ·have t1:decide (((r.length+1:Nat):Int) < 1+(n.toNat:Int))=false:=decide_eq_false (by omega)
    have HR:Hid (rName (n :: r)=some (r.take n.toNat,r.drop n.toNat)):=Lib.hid (by simp only [rName]; rw [if_neg hlt])
    rw [HR.out]
    simp only [List.length_cons]
    obtain ⟨k,hk⟩:∃ k,r.length+1=k:=⟨_,rfl⟩
    have k0:0 < k:=by omega
    have k1:(0:Int) < (k:Int):=by omega
    have k2:(1:Int)+(n.toNat:Int)≤(k:Int):=by omega
    have k3:(1:Int)+(n.toNat:Int)≤(cap:Int):=by omega
    have k4:(1:Int)≤1+(n.toNat:Int):=by omega
    have k5:(0:Int)≤1+(n.toNat:Int):=by omega
    rw [hk] at e0 t1 h1 hc ⊢
    have en:(1+(n.toNat:Int)).toNat=1+n.toNat:=by omega
    have hl:(n :: r).length=k:=by rw [← hk]; rfl
    have d1:((n :: r).take (1+n.toNat)).drop 1=r.take n.toNat:=by rw [Nat.add_comm]; rfl
    have d2:(n :: r).drop (1+n.toNat)=r.drop n.toNat:=by rw [Nat.add_comm]; rfl
    have s1:=rdB_sub (w:=w) (B:=B) (l:=n :: r) 1 (1+n.toNat) g off cap (by omega) (by omega) (by omega) h2 h3 (fun j hj=>hc j (by omega))
    have s2:=rdB_drop (w:=w) (B:=B) (l:=n :: r) (1+n.toNat) g off cap (by omega) (by omega) h2 h3 (fun j hj=>hc j (by omega))
    rw [d1,Nat.add_sub_cancel_left] at s1
    rw [d2,hl] at s2
    clear hc hlt HR h3 hk d1 d2 hl
    generalize r.take n.toNat=nm at *
    generalize r.drop n.toNat=rs at *
    generalize n.toNat=m at *
    by_cases q1:cap=1
    ·subst q1
     obtain rfl:m=0:=by omega
     obtain rfl:k=1:=by omega
     rw [if_pos rfl] at s1
     rw [if_pos (by omega)] at s2
     have kc:=conv_c s1.drew
     have HS:=Lib.hid s2
     clear s1 s2
     go_enter Tryz.func88,Tryz.ntmps88
     go_wp2
     go_region
     go_wp2
     refine bodyPost_ret (v:=.tuple #[strV nm,.slice (some ⟨g,off,none⟩) 0 0,.bool true]) (by simp [results,Tryz.results88,go_sem]) rfl ?_
     exact ⟨⟨_,rfl,HS.out⟩,W0.out.drew⟩
    ·rw [if_neg q1] at s1
     by_cases q2:cap=1+m
     ·rw [if_pos q2] at s2
      have HS:=Lib.hid s2
      subst q2
      rw [Nat.add_sub_cancel_left] at s1
      have kc:=conv_c s1.drew
      have hm0:¬ m=0:=by omega
      clear s1 s2
      go_enter Tryz.func88,Tryz.ntmps88
      go_wp2
      go_region
      go_wp2
      refine bodyPost_ret (v:=.tuple #[strV nm,.slice (some ⟨g,off,none⟩) (k - (1+m)) (1+m - (1+m)),.bool true]) (by simp [results,Tryz.results88,go_sem]; try omega) rfl ?_
      exact ⟨⟨_,rfl,HS.out⟩,W0.out.drew⟩
     ·rw [if_neg q2] at s2
      have kc:=conv_c s1.drew
      have HS:=Lib.hid s2
      clear s1 s2
      go_enter Tryz.func88,Tryz.ntmps88
      go_wp2
      go_region
      go_wp2
      refine bodyPost_ret (v:=.tuple #[strV nm,.slice (some ⟨g,off+(1+m),none⟩) (k - (1+m)) (cap - (1+m)),.bool true]) (by simp [results,Tryz.results88,go_sem]) rfl ?_
      exact ⟨⟨_,rfl,HS.out⟩,W0.out.drew⟩
/-! ### timely -/
abbrev taskV (t:TaskP) (vb:Value):Value:=.agg #[strV t.cls,strV t.name,.int .i64 t.frm,.int .i64 t.due,.int .i64 t.late,.int .i64 t.tries,vb]
set_option maxRecDepth 100000 in
set_option maxHeartbeats 4000000 in
theorem timely_c (t:TaskP) (a:Option Addr) (n c:Nat) (w:World):Calls Tryz.prog 73 #[taskV t (.slice a n c)] w fun e w'=>e=.returned (.bool (timelyB t))∧Below w.heap.size w w':=by
 have hun:undef=Value.tuple #[]:=rfl
 obtain ⟨cls,name,frm,due,late,tries,body⟩:=t
 have HB:=Lib.hid ((Below.refl _ w).alloc (Nat.le_refl _) (.cells #[strV cls,strV name,.int .i64 frm,.int .i64 due,.int .i64 late,.int .i64 tries,.slice a n c] 35))
 have HN1:=Lib.hid (fun w=>isName_c cls w)
 have HN2:=Lib.hid (fun w=>isName_c name w)
 have HT1:=Lib.hid (fun w=>isTime_c frm w)
 have HT2:=Lib.hid (fun w=>isTime_c due w)
 have HT3:=Lib.hid (fun w=>isTime_c late w)
 unfold timelyB
 simp only
 generalize isNameP cls=b1 at *
 generalize isNameP name=b2 at *
 generalize decide (0≤frm∧frm≤2147483647)=b3 at *
 generalize decide (0≤due∧due≤2147483647)=b4 at *
 generalize decide (0≤late∧late≤2147483647)=b5 at *
 generalize h6:decide (frm≤due)=b6 at *
 generalize h7:decide (due≤late)=b7 at *
 generalize h8:decide (1≤tries)=b8 at *
 generalize h9:decide (tries≤99)=b9 at *
 cases b1
 ·go_enter Tryz.func73,Tryz.ntmps73
  go_wp2_with fail
  refine (HN1.out _).mono ?_
  rintro e _ ⟨rfl,rfl⟩
  go_wp2
  go_ret
  exact ⟨rfl,HB.out⟩
 cases b2
 ·go_enter Tryz.func73,Tryz.ntmps73
  go_wp2_with fail
  refine (HN1.out _).mono ?_
  rintro e _ ⟨rfl,rfl⟩
  go_wp2_with fail
  refine (HN2.out _).mono ?_
  rintro e _ ⟨rfl,rfl⟩
  go_wp2
  go_ret
  exact ⟨rfl,HB.out⟩
 cases b3
 ·go_enter Tryz.func73,Tryz.ntmps73
  go_wp2_with fail
  refine (HN1.out _).mono ?_
  rintro e _ ⟨rfl,rfl⟩
  go_wp2_with fail
  refine (HN2.out _).mono ?_
  rintro e _ ⟨rfl,rfl⟩
  go_wp2_with fail
  refine (HT1.out _).mono ?_
  rintro e _ ⟨rfl,rfl⟩
  go_wp2
  go_ret
  exact ⟨rfl,HB.out⟩
 cases b4
 ·go_enter Tryz.func73,Tryz.ntmps73
  go_wp2_with fail
  refine (HN1.out _).mono ?_
  rintro e _ ⟨rfl,rfl⟩
  go_wp2_with fail
  refine (HN2.out _).mono ?_
  rintro e _ ⟨rfl,rfl⟩
  go_wp2_with fail
  refine (HT1.out _).mono ?_
  rintro e _ ⟨rfl,rfl⟩
  go_wp2_with fail
  refine (HT2.out _).mono ?_
  rintro e _ ⟨rfl,rfl⟩
  go_wp2
  go_ret
  exact ⟨rfl,HB.out⟩
 cases b5
 ·go_enter Tryz.func73,Tryz.ntmps73
  go_wp2_with fail
  refine (HN1.out _).mono ?_
  rintro e _ ⟨rfl,rfl⟩
  go_wp2_with fail
  refine (HN2.out _).mono ?_
  rintro e _ ⟨rfl,rfl⟩
  go_wp2_with fail
  refine (HT1.out _).mono ?_
  rintro e _ ⟨rfl,rfl⟩
  go_wp2_with fail
  refine (HT2.out _).mono ?_
  rintro e _ ⟨rfl,rfl⟩
  go_wp2_with fail
  refine (HT3.out _).mono ?_
  rintro e _ ⟨rfl,rfl⟩
  go_wp2
  go_ret
  exact ⟨rfl,HB.out⟩
 cases b6
 ·go_enter Tryz.func73,Tryz.ntmps73
  go_wp2_with fail
  refine (HN1.out _).mono ?_
  rintro e _ ⟨rfl,rfl⟩
  go_wp2_with fail
  refine (HN2.out _).mono ?_
  rintro e _ ⟨rfl,rfl⟩
  go_wp2_with fail
  refine (HT1.out _).mono ?_
  rintro e _ ⟨rfl,rfl⟩
  go_wp2_with fail
  refine (HT2.out _).mono ?_
  rintro e _ ⟨rfl,rfl⟩
  go_wp2_with fail
  refine (HT3.out _).mono ?_
  rintro e _ ⟨rfl,rfl⟩
  go_wp2
  go_ret
  exact ⟨rfl,HB.out⟩
 cases b7
 ·go_enter Tryz.func73,Tryz.ntmps73
  go_wp2_with fail
  refine (HN1.out _).mono ?_
  rintro e _ ⟨rfl,rfl⟩
  go_wp2_with fail
  refine (HN2.out _).mono ?_
  rintro e _ ⟨rfl,rfl⟩
  go_wp2_with fail
  refine (HT1.out _).mono ?_
  rintro e _ ⟨rfl,rfl⟩
  go_wp2_with fail
  refine (HT2.out _).mono ?_
  rintro e _ ⟨rfl,rfl⟩
  go_wp2_with fail
  refine (HT3.out _).mono ?_
  rintro e _ ⟨rfl,rfl⟩
  go_wp2
  go_ret
  exact ⟨rfl,HB.out⟩
 cases b8
 ·go_enter Tryz.func73,Tryz.ntmps73
  go_wp2_with fail
  refine (HN1.out _).mono ?_
  rintro e _ ⟨rfl,rfl⟩
  go_wp2_with fail
  refine (HN2.out _).mono ?_
  rintro e _ ⟨rfl,rfl⟩
  go_wp2_with fail
  refine (HT1.out _).mono ?_
  rintro e _ ⟨rfl,rfl⟩
  go_wp2_with fail
  refine (HT2.out _).mono ?_
  rintro e _ ⟨rfl,rfl⟩
  go_wp2_with fail
  refine (HT3.out _).mono ?_
  rintro e _ ⟨rfl,rfl⟩
  go_wp2
  go_ret
  exact ⟨rfl,HB.out⟩
 cases b9
 ·go_enter Tryz.func73,Tryz.ntmps73
  go_wp2_with fail
  refine (HN1.out _).mono ?_
  rintro e _ ⟨rfl,rfl⟩
  go_wp2_with fail
  refine (HN2.out _).mono ?_
  rintro e _ ⟨rfl,rfl⟩
  go_wp2_with fail
  refine (HT1.out _).mono ?_
  rintro e _ ⟨rfl,rfl⟩
  go_wp2_with fail
  refine (HT2.out _).mono ?_
  rintro e _ ⟨rfl,rfl⟩
  go_wp2_with fail
  refine (HT3.out _).mono ?_
  rintro e _ ⟨rfl,rfl⟩
  go_wp2
  go_ret
  exact ⟨rfl,HB.out⟩
 ·go_enter Tryz.func73,Tryz.ntmps73
  go_wp2_with fail
  refine (HN1.out _).mono ?_
  rintro e _ ⟨rfl,rfl⟩
  go_wp2_with fail
  refine (HN2.out _).mono ?_
  rintro e _ ⟨rfl,rfl⟩
  go_wp2_with fail
  refine (HT1.out _).mono ?_
  rintro e _ ⟨rfl,rfl⟩
  go_wp2_with fail
  refine (HT2.out _).mono ?_
  rintro e _ ⟨rfl,rfl⟩
  go_wp2_with fail
  refine (HT3.out _).mono ?_
  rintro e _ ⟨rfl,rfl⟩
  go_wp2
  go_ret
  exact ⟨rfl,HB.out⟩
end Go.Proofs.YtbcfpdlhieaepaaGreatDoor
