import Derived.Test.YtejdliehekjicaaGreatAwSrt
import Derived.Shelf.SlIterI.Nil
import Derived.Shelf.SortM.Plain
import Derived.Shelf.SortM.SortNone
import Derived.Ground.GgzProg
import Derived.Ground.SlgmProg
import Derived.Test.YtejdliehekjicaaGreatProg
set_option maxRecDepth 100000
namespace Go.Proofs
open Go.RowKit Go.Maps Go.Sort Go.Shelf
theorem Tryz.bears{P:Program}{k:Nat}{B:Func}(m:String)(_:m=((P.funcs[k]?).map (·.name)).getD "")(h:(m== "runtime.NumGoroutine")=false)(g:P.funcs[k]?=some {B with name:=m}):Bears P k B:=⟨m,h,g⟩
def Tryz.keysA_ren:Ren:=⟨fun| 7=>71|10=>118|n=>n,fun| 23=>151|26=>3|3=>154|28=>159|0=>0|27=>158|33=>142|4=>4|n=>n,fun| n=>n⟩
theorem Tryz.keysA:SlLaysZI.n7 Tryz.prog Tryz.keysA_ren:=by constructor<;>first|(intros;kernel_rfl)|exact Tryz.bears _ rfl (by kernel_rfl) (by kernel_rfl)
def Tryz.sortedA_ren:Ren:=⟨fun| 6=>70|8=>116|9=>117|11=>164|13=>100|12=>165|23=>150|24=>151|14=>225|15=>226|16=>227|17=>228|18=>229|19=>230|20=>231|21=>232|22=>233|25=>271|26=>205|27=>206|28=>272|29=>273|30=>121|31=>294|n=>n,fun| 26=>3|28=>159|24=>23|0=>0|3=>3|37=>198|48=>242|50=>244|4=>4|40=>236|39=>235|45=>224|5=>5|9=>9|51=>299|55=>250|57=>349|58=>91|33=>142|n=>n,fun| n=>n⟩
theorem Tryz.sortedA:SlLaysZI.n6 Tryz.prog Tryz.sortedA_ren:=by constructor<;>first|(intros;kernel_rfl)|exact Tryz.bears _ rfl (by kernel_rfl) (by kernel_rfl)
def Tryz.sortA_ren:Ren:=⟨fun| 5=>117|8=>100|7=>165|19=>150|20=>151|10=>225|11=>226|12=>227|13=>228|14=>229|15=>230|16=>231|17=>232|18=>233|30=>271|31=>205|32=>206|33=>272|34=>273|35=>121|40=>294|n=>n,fun| 23=>23|25=>3|3=>3|32=>198|22=>23|0=>0|44=>242|46=>244|4=>4|36=>236|35=>235|41=>224|5=>5|9=>9|53=>299|57=>250|63=>349|64=>91|n=>n,fun| n=>n⟩
theorem Tryz.sortA:SlLaysM.n5 Tryz.prog Tryz.sortA_ren:=by constructor<;>first|(intros;kernel_rfl)|exact Tryz.bears _ rfl (by kernel_rfl) (by kernel_rfl)
theorem Tryz.sorts(m:Nat):AnyZI.SortsIn Tryz.prog Tryz.sortedA_ren Fence.wide m:=
 ⟨fun blk off cap ss W hH hblk hsz=>callsIn_wide.2 (AnyM.slices_Sort_int Tryz.sortA blk off cap ss W hH hblk hsz),
  fun p cap W=>callsIn_wide.2 (AnyM.slices_Sort_int_none Tryz.sortA p cap W)⟩
theorem Tryz.in64_wf{n:Int}(h:Go.AM.in64 n=true):(Lit.int .i64 n).wf=true:=by
 have:=Go.AM.in64_iff h
 show (decide (IntKind.i64.min<=n)&&decide (n<=IntKind.i64.max))=true
 rw[show IntKind.i64.min=-9223372036854775808 from rfl,show IntKind.i64.max=9223372036854775807 from rfl,Bool.and_eq_true,decide_eq_true_eq,decide_eq_true_eq]
 exact this
theorem Tryz.sortedOk:Go.AM.SortedOk Tryz.prog 70 118:=by
 refine⟨enters_of Tryz.func70 (by kernel_rfl) rfl,?_⟩
 intro w Bm bm l clock ks hBm hcell hmap hst hkeys hnd h64 hlen
 obtain⟨R,hR⟩:∃ R:Value->Option (DataW Unit × List MemPlace),∀ v,R v=some (.nil,[]):=⟨fun _=>some (.nil,[]),fun _=>rfl⟩
 have hu:Tryz.prog.underlying 3=some (.int .i64):=Tryz.underlying3
 have hkl:l.size=ks.length:=by have:=congrArg List.length hkeys;simpa using this
 have hrd:∀ x∈l.toList,∃ n:Int,x.key=.int .i64 n/\Go.AM.in64 n=true/\WideElems.rd Tryz.prog 3 R x=some (.int .i64 n,.nil):=fun x hx=>by
  have:x.key∈ks.map (Value.int .i64):=by rw[<-hkeys];exact List.mem_map_of_mem hx
  obtain⟨n,hn,he⟩:=List.mem_map.1 this
  refine⟨n,he.symm,h64 n hn,?_⟩
  unfold WideElems.rd
  rw[<-he,hR]
  simp[keyOf,hu,mapKey,Tryz.in64_wf (h64 n hn)]
 have hfit:WideElems.Fit Tryz.prog 3 R l clock:=⟨by rw[hkl];exact Nat.le_trans hlen (by decide),⟨hst.1,hst.2,by rw[hkeys];exact List.pairwise_map.2 (hnd.imp fun h e=>h (by injection e))⟩,fun x hx=>by obtain⟨n,_,_,h⟩:=hrd x hx;exact⟨_,h⟩⟩
 generalize hD:(DataW.map ((l.toList.map (WideElems.rg Tryz.prog 3 R)).foldr DataW.insert []):DataW Unit)=D0
 have hown:w.ownsMap Tryz.prog 3 R bm ks.length D0:=⟨l,clock,hmap,hfit,by omega,hD.symm⟩
 have hsz:Maps.size D0=ks.length:=by
  rw[<-hD,Maps.size_eq,(WideShapes.sorted_perm _).length_eq,List.length_map,Array.length_toList,hkl]
 have hik:(intKeys D0).Perm ks:=by
  rw[<-hD]
  show (((l.toList.map (WideElems.rg Tryz.prog 3 R)).foldr DataW.insert []).map fun p=>Go.intOf p.1).Perm ks
  refine ((WideShapes.sorted_perm _).map _).trans ?_
  have:((l.toList.map (WideElems.rg Tryz.prog 3 R)).map fun p=>Go.intOf p.1)=ks:=by
   rw[List.map_map]
   have h1:l.toList.map ((fun p:Lit × DataW Unit=>Go.intOf p.1) ∘ WideElems.rg Tryz.prog 3 R)=l.toList.map (fun x=>match x.key with | .int .i64 n=>n | _=>0):=by
    refine List.map_congr_left fun x hx=>?_
    obtain⟨n,h2,_,h3⟩:=hrd x hx
    simp only[Function.comp,WideElems.rg_of h3,h2]
    rfl
   rw[h1]
   have h2:l.toList.map (fun x=>match x.key with | .int .i64 n=>n | _=>0)=(l.toList.map (·.key)).map (fun v=>match v with | .int .i64 n=>n | _=>0):=by rw[List.map_map];rfl
   rw[h2,hkeys,List.map_map]
   simp[Function.comp_def]
  rw[this]
 have hseq:SeqGives Fence.wide 2 Tryz.prog 118 #[.pointer (some ⟨Bm,0,none⟩)] encZ (fun ss=>ss.Perm (intKeys D0)) (Maps.size D0) w:=
  AnyZI.keys_gives (ρ:=Tryz.keysA_ren) { Tryz.keysA with } Fence.wide _ trivial rfl (by omega) Bm bm ks.length D0 w hBm hcell hown
 have cS:=AnyZI.sorted_in Tryz.sortedA Fence.wide 5 trivial trivial trivial trivial rfl (by omega) (Tryz.sorts _) (enters_of Tryz.func117 (by kernel_rfl) rfl) 118 #[.pointer (some ⟨Bm,0,none⟩)] trivial (enters_of Tryz.func118 (by kernel_rfl) rfl) _ (Maps.size D0) (by rw[hsz];exact Nat.le_trans hlen (by decide)) (by rw[hsz];omega) w hseq
 change CallsIn _ _ Tryz.prog 70 _ _ _ at cS
 refine ((callsIn_wide (n:=5)).1 cS).mono ?_
 rintro e w' ⟨v,ss,rfl,hS,hrow,hnil,hb⟩
 have hp:ss.Perm ks:=hS.trans hik
 refine⟨v,Tryz.sortedA_ren.t 26,rfl,?_,hnil.trans ⟨fun h=>by rw[h] at hp;exact hp.nil_eq.symm,fun h=>by rw[h] at hp;exact hp.eq_nil⟩,hb⟩
 rw[<-hp.length_eq,<-mergeSort_of_perm_i hp]
 exact hrow
end Go.Proofs
